/- printed by gen.py -/
import Derived.Test.YtkccpkccdbfomaaGreatDoorGSHx2
namespace Go.Proofs.YtkccpkccdbfomaaGreatDoor.GSH
open Go Go.RowKit Go.Proofs.YtkccpkccdbfomaaGreatDoorK Go.Proofs.YtkccpkccdbfomaaGreatDoor
set_option maxRecDepth 100000
set_option maxHeartbeats 2000000
set_option linter.unusedVariables false
set_option linter.unusedSimpArgs false
noncomputable def wide_up.C : Code := (Tryz.f114.body).getD .skip
abbrev wide_up.out (r : (List Int)) (H : Hp) (v : Value) : Prop := Ro kU32 H v r
abbrev wide_up.R (H0 : Hp) (L : Items) (r : (List Int)) : Value → Hp → Items → Prop := fun v H' L' => (∃ p it, L' = p ++ it :: L ∧ Sl kU32 H' 167 it v r) ∧ H0.le H'
structure wide_up.Hs where
 l0 : Int → (List Int) → Int → (List Int) → Int → Int → Option (List Int)
noncomputable def wide_up.b0 (k : Nat) (h : wide_up.Hs)  (n : Int) (out : List Int) (carry : Int) (t14 : List Int) (t15 : Int) (t16 : Int) : Option (List Int) := if t16 < t15 then (if (0 : Int) ≤ t16 ∧ t16 < (t14.length : Int) then (if 0 ≤ n then (if out.length + 1 ≤ 35184372088704 then (h.l0 n (out ++ [(ior .u64 ((((rd t14 t16) % 18446744073709551616) * 2 ^ shn .u64 n) % 18446744073709551616) ((carry) % 18446744073709551616)) % 4294967296]) (((ior .u64 ((((rd t14 t16) % 18446744073709551616) * 2 ^ shn .u64 n) % 18446744073709551616) ((carry) % 18446744073709551616)) / 4294967296) % 4294967296) t14 t15 (w64 (t16 + 1))) else none) else none) else none) else (if out.length + 1 ≤ 35184372088704 then (some (out ++ [carry])) else none)
noncomputable def wide_up.hs : Nat → wide_up.Hs
 | 0 => ⟨fun _ _ _ _ _ _ => none⟩
 | k + 1 => ⟨fun x0 x1 x2 x3 x4 x5 => wide_up.b0 k (wide_up.hs k) x0 x1 x2 x3 x4 x5⟩
noncomputable def wide_up.f (k : Nat) (w : List Int) (n : Int) : Option (List Int) := (fun h : wide_up.Hs => if 0 ≤ 0 ∧ 0 ≤ w64 ((w.length : Int) + 1) ∧ w64 ((w.length : Int) + 1) ≤ 70368744177664 then (h.l0 n (List.replicate (0 : Int).toNat (0 : Int)) 0 w (w.length : Int) 0) else none) (wide_up.hs k)
structure wide_up.LE (h h' : wide_up.Hs) : Prop where
 l0 : ∀ y0 y1 y2 y3 y4 y5, LeO (h.l0 y0 y1 y2 y3 y4 y5) (h'.l0 y0 y1 y2 y3 y4 y5)
theorem wide_up.b0_mono {k : Nat} {h h' : wide_up.Hs} (hl : wide_up.LE h h') : ∀ y0 y1 y2 y3 y4 y5, LeO (wide_up.b0 k h y0 y1 y2 y3 y4 y5) (wide_up.b0 (k + 1) h' y0 y1 y2 y3 y4 y5) := fun _ _ _ _ _ _ => (LeO.ite (LeO.ite (LeO.ite (LeO.ite (hl.l0 _ _ _ _ _ _) (LeO.refl _)) (LeO.refl _)) (LeO.refl _)) (LeO.ite (LeO.refl _) (LeO.refl _)))
theorem wide_up.hs_mono : ∀ k, wide_up.LE (wide_up.hs k) (wide_up.hs (k + 1))
 | 0 => ⟨fun _ _ _ _ _ _ => LeO.none _⟩
 | k + 1 => ⟨wide_up.b0_mono (k := k) (wide_up.hs_mono k)⟩
theorem wide_up.mono : ∀ k y0 y1, LeO (wide_up.f k y0 y1) (wide_up.f (k + 1) y0 y1) := fun k _ _ => have hl := wide_up.hs_mono k; by unfold wide_up.f; exact (LeO.ite (hl.l0 _ _ _ _ _ _) (LeO.refl _))
noncomputable def wide_up.Kl0 : List Item := .code (lopB (blkB (seqR (seqL (seqR (seqR (seqR wide_up.C))))))) :: .inLoop (lopB (blkB (seqR (seqL (seqR (seqR (seqR wide_up.C))))))) :: .inBlock 0 :: .code (seqR (seqR (seqR (seqR wide_up.C)))) :: []
structure wide_up.OK (h : wide_up.Hs) : Prop where
 l0 : ∀ {H0 H : Hp} {L : Items} {r : (List Int)} {jk_ : Nat → Value} {n : Int} {out : List Int} {carry : Int} {t14 : List Int} {t15 : Int} {t16 : Int} {v_out : Value} {v_t14 : Value} {i_out : Item'} (_ : H0.le H) (_he : h.l0 n out carry t14 t15 t16 = some r) (_h_out : Sl kU32 H 167 i_out v_out out) (_h_t14 : Src kU32 H L v_t14 t14), Wp Tryz.prog 114 40 wide_up.Kl0 (upd (upd (upd (upd (upd (upd (upd jk_ 1 (.int .i64 n)) 4 (.slice none 0 0)) 5 (v_out)) 6 (.int .u32 carry)) 14 (v_t14)) 15 (.int .i64 t15)) 16 (.int .i64 t16)) H (i_out :: L) (wide_up.R H0 L r)
theorem wide_up.b0_ok {k : Nat} {h : wide_up.Hs} (hh : wide_up.OK h) {H0 H : Hp} {L : Items} {r : (List Int)} {jk_ : Nat → Value} {n : Int} {out : List Int} {carry : Int} {t14 : List Int} {t15 : Int} {t16 : Int} {v_out : Value} {v_t14 : Value} {i_out : Item'} (hle : H0.le H) (he : wide_up.b0 k h n out carry t14 t15 t16 = some r) (h_out : Sl kU32 H 167 i_out v_out out) (h_t14 : Src kU32 H L v_t14 t14) : Wp Tryz.prog 114 40 wide_up.Kl0 (upd (upd (upd (upd (upd (upd (upd jk_ 1 (.int .i64 n)) 4 (.slice none 0 0)) 5 (v_out)) 6 (.int .u32 carry)) 14 (v_t14)) 15 (.int .i64 t15)) 16 (.int .i64 t16)) H (i_out :: L) (wide_up.R H0 L r) := by
 unfold wide_up.b0 at he
 unfold wide_up.Kl0
 refine wR rfl <| w_d rfl (d_lss rfl rfl) <| wE ?_
 rcases its he with ⟨c5, he⟩ | ⟨c5, he⟩
 ·
  refine w_then rfl (dt c5) <| w_skip <| w_seq <| w_block <| wR rfl ?_
  obtain ⟨c6, he⟩ := rq he
  refine w_d rfl (d_index (sz := 1) Tryz.underlying22 sz167 rfl h_t14.th rfl c6) <| w_d rfl (d_ldint ty167 rfl h_t14.th c6) <| wA (.int .u32 (rd t14 t16)) rfl rfl <| wQ rfl <| wM (.int .u32 (rd t14 t16)) rfl rfl <| w_d rfl (d_conv (c := (rd t14 t16) % 18446744073709551616) Tryz.underlying167 Tryz.underlying113 rfl rfl) <| wM (.int .i64 n) rfl rfl ?_
  obtain ⟨c7, he⟩ := rq he
  refine w_d rfl (d_shl (c := (((rd t14 t16) % 18446744073709551616) * 2 ^ shn .u64 n) % 18446744073709551616) rfl rfl c7 rfl) <| wM (.int .u32 carry) rfl rfl <| w_d rfl (d_conv (c := (carry) % 18446744073709551616) Tryz.underlying167 Tryz.underlying113 rfl rfl) <| w_d rfl (d_bor rfl rfl) <| wA (.int .u64 (ior .u64 ((((rd t14 t16) % 18446744073709551616) * 2 ^ shn .u64 n) % 18446744073709551616) ((carry) % 18446744073709551616))) rfl rfl <| wQ rfl <| wM v_out rfl rfl <| wM (.int .u64 (ior .u64 ((((rd t14 t16) % 18446744073709551616) * 2 ^ shn .u64 n) % 18446744073709551616) ((carry) % 18446744073709551616))) rfl rfl <| w_d rfl (d_conv (c := (ior .u64 ((((rd t14 t16) % 18446744073709551616) * 2 ^ shn .u64 n) % 18446744073709551616) ((carry) % 18446744073709551616)) % 4294967296) Tryz.underlying113 Tryz.underlying167 rfl rfl) <| w_a rfl (o_buildSlice' (kd := kU32) (css := [[.int .u32 ((ior .u64 ((((rd t14 t16) % 18446744073709551616) * 2 ^ shn .u64 n) % 18446744073709551616) ((carry) % 18446744073709551616)) % 4294967296)]]) (xs := [(ior .u64 ((((rd t14 t16) % 18446744073709551616) * 2 ^ shn .u64 n) % 18446744073709551616) ((carry) % 18446744073709551616)) % 4294967296]) (parts := [(0, .int .u32 ((ior .u64 ((((rd t14 t16) % 18446744073709551616) * 2 ^ shn .u64 n) % 18446744073709551616) ((carry) % 18446744073709551616)) % 4294967296))]) Tryz.underlying22 ti167 rfl ⟨_, _, rfl, rfl, rfl⟩ ⟨rfl, trivial⟩ rfl (by decide)) ?_
  rintro v8 _ _ ⟨i9, rfl, rfl, h10⟩
  obtain ⟨c11, he⟩ := rq he
  refine w_a rfl (o_append' (kd := kU32) (F := fun z_ => i9 :: z_ :: L) Tryz.underlying22 Tryz.underlying22 ti167 rfl (by first | omega | (simp only [List.nil_append, List.length_cons, List.length_nil]; omega)) rfl rfl h_out (h10.src .here) (fun _ => (.there .here))) ?_
  rintro v12 _ _ ⟨i13, rfl, rfl, h14⟩
  refine wA v12 rfl rfl <| w_done <| w_region rfl <| wM (.int .u64 (ior .u64 ((((rd t14 t16) % 18446744073709551616) * 2 ^ shn .u64 n) % 18446744073709551616) ((carry) % 18446744073709551616))) rfl rfl <| w_d rfl (d_shr (c := (ior .u64 ((((rd t14 t16) % 18446744073709551616) * 2 ^ shn .u64 n) % 18446744073709551616) ((carry) % 18446744073709551616)) / 4294967296) rfl rfl (by decide) rfl) <| w_d rfl (d_conv (c := ((ior .u64 ((((rd t14 t16) % 18446744073709551616) * 2 ^ shn .u64 n) % 18446744073709551616) ((carry) % 18446744073709551616)) / 4294967296) % 4294967296) Tryz.underlying113 Tryz.underlying167 rfl rfl) <| wA (.int .u32 (((ior .u64 ((((rd t14 t16) % 18446744073709551616) * 2 ^ shn .u64 n) % 18446744073709551616) ((carry) % 18446744073709551616)) / 4294967296) % 4294967296)) rfl rfl <| w_done <| w_inBlock <| w_region rfl <| w_d rfl (d_add (c := w64 (t16 + 1)) rfl rfl rfl) <| wM (.int .i64 (w64 (t16 + 1))) rfl rfl ?_
  refine w_done <| w_inLoop <| w_del .here <| w_sl 1 (.int .i64 n) rfl <| w_sl 4 (.slice none 0 0) rfl <| w_sl 5 (v12) rfl <| w_sl 6 (.int .u32 (((ior .u64 ((((rd t14 t16) % 18446744073709551616) * 2 ^ shn .u64 n) % 18446744073709551616) ((carry) % 18446744073709551616)) / 4294967296) % 4294967296)) rfl <| w_sl 14 (v_t14) rfl <| w_sl 15 (.int .i64 t15) rfl <| w_sl 16 (.int .i64 (w64 (t16 + 1))) rfl <| hh.l0 hle he h14 h_t14
 ·
  refine w_else rfl (df c5) <| w_exit rfl <| wR rfl <| wM v_out rfl rfl <| wM (.int .u32 carry) rfl rfl <| w_a rfl (o_buildSlice' (kd := kU32) (css := [[.int .u32 carry]]) (xs := [carry]) (parts := [(0, .int .u32 carry)]) Tryz.underlying22 ti167 rfl ⟨_, _, rfl, rfl, rfl⟩ ⟨rfl, trivial⟩ rfl (by decide)) ?_
  rintro v15 _ _ ⟨i16, rfl, rfl, h17⟩
  obtain ⟨c18, he⟩ := rq he
  refine w_a rfl (o_append' (kd := kU32) (F := fun z_ => i16 :: z_ :: L) Tryz.underlying22 Tryz.underlying22 ti167 rfl (by first | omega | (simp only [List.nil_append, List.length_cons, List.length_nil]; omega)) rfl rfl h_out (h17.src .here) (fun _ => (.there .here))) ?_
  rintro v19 _ _ ⟨i20, rfl, rfl, h21⟩
  refine wA v19 rfl rfl <| w_done ?_
  obtain rfl := sj he
  refine w_del .here <| w_return fn_114 rs_114 (.tmp (v := v19) rfl .nil) <| ⟨⟨[], _, rfl, h21⟩, hle⟩
theorem wide_up.ok : ∀ k, wide_up.OK (wide_up.hs k)
 | 0 => ⟨(by intros; exact nomatch (show none = some _ from by assumption))⟩
 | k + 1 => ⟨wide_up.b0_ok (k := k) (wide_up.ok k)⟩
theorem wide_up.calls (k : Nat) {H : Hp} {L : Items} {w : List Int} {n : Int} {v0_w : Value} {r : (List Int)} (he : wide_up.f k w n = some r) (h0_w : Src kU32 H L v0_w w) : Ct Tryz.prog 114 ⟨[v0_w, .int .i64 n]⟩ H L (fun v H' L' => ∃ it, L' = it :: L ∧ H.le H' ∧ Sl kU32 H' 167 it v r) := by
 refine ct_own ?_
 have hle : H.le H := .refl _
 have hh := wide_up.ok k
 unfold wide_up.f at he
 refine ct_enter (args := [v0_w, .int .i64 n]) fn_114 rfl nt_114 rfl <| wR rfl <| wA (.slice none 0 0) rfl rfl <| wQ rfl <| wM v0_w rfl rfl <| w_d rfl (d_len Tryz.underlying22 rfl h0_w) <| w_d rfl (d_add (c := w64 ((w.length : Int) + 1)) rfl rfl rfl) ?_
 obtain ⟨c1, he⟩ := rq he
 refine w_a rfl (o_make' (kd := kU32) (z0 := 0) Tryz.underlying22 ti167 (zp167 _) rfl rfl (by omega) (by omega) (by omega)) ?_
 rintro v2 _ _ ⟨i3, rfl, rfl, h4⟩
 refine wA v2 rfl rfl <| wQ rfl <| wA (.int .u32 0) rfl rfl <| wE <| wR rfl <| wM v0_w rfl rfl <| w_d rfl (d_len Tryz.underlying22 rfl h0_w.th) <| wM (.int .i64 0) rfl rfl ?_
 refine w_done <| w_block <| w_loop <| w_sl 1 (.int .i64 n) rfl <| w_sl 4 (.slice none 0 0) rfl <| w_sl 5 (v2) rfl <| w_sl 6 (.int .u32 0) rfl <| w_sl 14 (v0_w) rfl <| w_sl 15 (.int .i64 (w.length : Int)) rfl <| w_sl 16 (.int .i64 0) rfl <| hh.l0 hle he h4 h0_w
theorem wide_up.callsR (k : Nat) {H : Hp} {L : Items} {w : List Int} {n : Int} {v0_w : Value} {r : (List Int)} (he : wide_up.f k w n = some r) (h0_w : Src kU32 H L v0_w w) : Ct Tryz.prog 114 ⟨[v0_w, .int .i64 n]⟩ H L (cR H L (wide_up.out r)) := ct_ro (wide_up.calls k he h0_w)
noncomputable def wide_guess.C : Code := (Tryz.f156.body).getD .skip
def wide_guess.out (r : Int) (H : Hp) (v : Value) : Prop := v = .int .u64 r
abbrev wide_guess.R (H0 : Hp) (L : Items) (r : Int) := fR H0 L (wide_guess.out r)
structure wide_guess.Hs where
 l0 : (List Int) → (List Int) → Int → Int → Int → Int → Option Int
noncomputable def wide_guess.b0 (k : Nat) (h : wide_guess.Hs)  (r_ : List Int) (d : List Int) (i : Int) (n : Int) (q : Int) (left : Int) : Option Int := if (!(decide (4294967296 ≤ q))) = true → (0 : Int) ≤ w64 (n - 2) ∧ w64 (n - 2) < (d.length : Int) then (if (!(decide (4294967296 ≤ q))) = true → (0 : Int) ≤ w64 ((w64 (i + n)) - 2) ∧ w64 ((w64 (i + n)) - 2) < (r_.length : Int) then (if ((decide (4294967296 ≤ q)) || (decide ((ior .u64 ((left * 4294967296) % 18446744073709551616) ((rd r_ (w64 ((w64 (i + n)) - 2))) % 18446744073709551616)) < ((q * ((rd d (w64 (n - 2))) % 18446744073709551616)) % 18446744073709551616)))) = true then (if (0 : Int) ≤ w64 (n - 1) ∧ w64 (n - 1) < (d.length : Int) then (if 4294967296 ≤ ((left + ((rd d (w64 (n - 1))) % 18446744073709551616)) % 18446744073709551616) then (some ((q - 1) % 18446744073709551616)) else (h.l0 r_ d i n ((q - 1) % 18446744073709551616) ((left + ((rd d (w64 (n - 1))) % 18446744073709551616)) % 18446744073709551616))) else none) else (some (q))) else none) else none
noncomputable def wide_guess.hs : Nat → wide_guess.Hs
 | 0 => ⟨fun _ _ _ _ _ _ => none⟩
 | k + 1 => ⟨fun x0 x1 x2 x3 x4 x5 => wide_guess.b0 k (wide_guess.hs k) x0 x1 x2 x3 x4 x5⟩
noncomputable def wide_guess.f (k : Nat) (r_ : List Int) (d : List Int) (i : Int) : Option Int := (fun h : wide_guess.Hs => if (0 : Int) ≤ w64 (i + (d.length : Int)) ∧ w64 (i + (d.length : Int)) < (r_.length : Int) then (if (0 : Int) ≤ w64 ((w64 (i + (d.length : Int))) - 1) ∧ w64 ((w64 (i + (d.length : Int))) - 1) < (r_.length : Int) then (if (0 : Int) ≤ w64 ((d.length : Int) - 1) ∧ w64 ((d.length : Int) - 1) < (d.length : Int) then (if ((rd d (w64 ((d.length : Int) - 1))) % 18446744073709551616) ≠ 0 then (if (0 : Int) ≤ w64 ((d.length : Int) - 1) ∧ w64 ((d.length : Int) - 1) < (d.length : Int) then (if ((rd d (w64 ((d.length : Int) - 1))) % 18446744073709551616) ≠ 0 then (h.l0 r_ d i (d.length : Int) ((Int.tdiv (ior .u64 ((((rd r_ (w64 (i + (d.length : Int)))) % 18446744073709551616) * 4294967296) % 18446744073709551616) ((rd r_ (w64 ((w64 (i + (d.length : Int))) - 1))) % 18446744073709551616)) ((rd d (w64 ((d.length : Int) - 1))) % 18446744073709551616)) % 18446744073709551616) (Int.tmod (ior .u64 ((((rd r_ (w64 (i + (d.length : Int)))) % 18446744073709551616) * 4294967296) % 18446744073709551616) ((rd r_ (w64 ((w64 (i + (d.length : Int))) - 1))) % 18446744073709551616)) ((rd d (w64 ((d.length : Int) - 1))) % 18446744073709551616))) else none) else none) else none) else none) else none) else none) (wide_guess.hs k)
structure wide_guess.LE (h h' : wide_guess.Hs) : Prop where
 l0 : ∀ y0 y1 y2 y3 y4 y5, LeO (h.l0 y0 y1 y2 y3 y4 y5) (h'.l0 y0 y1 y2 y3 y4 y5)
theorem wide_guess.b0_mono {k : Nat} {h h' : wide_guess.Hs} (hl : wide_guess.LE h h') : ∀ y0 y1 y2 y3 y4 y5, LeO (wide_guess.b0 k h y0 y1 y2 y3 y4 y5) (wide_guess.b0 (k + 1) h' y0 y1 y2 y3 y4 y5) := fun _ _ _ _ _ _ => (LeO.ite (LeO.ite (LeO.ite (LeO.ite (LeO.ite (LeO.refl _) (hl.l0 _ _ _ _ _ _)) (LeO.refl _)) (LeO.refl _)) (LeO.refl _)) (LeO.refl _))
theorem wide_guess.hs_mono : ∀ k, wide_guess.LE (wide_guess.hs k) (wide_guess.hs (k + 1))
 | 0 => ⟨fun _ _ _ _ _ _ => LeO.none _⟩
 | k + 1 => ⟨wide_guess.b0_mono (k := k) (wide_guess.hs_mono k)⟩
theorem wide_guess.mono : ∀ k y0 y1 y2, LeO (wide_guess.f k y0 y1 y2) (wide_guess.f (k + 1) y0 y1 y2) := fun k _ _ _ => have hl := wide_guess.hs_mono k; by unfold wide_guess.f; exact (LeO.ite (LeO.ite (LeO.ite (LeO.ite (LeO.ite (LeO.ite (hl.l0 _ _ _ _ _ _) (LeO.refl _)) (LeO.refl _)) (LeO.refl _)) (LeO.refl _)) (LeO.refl _)) (LeO.refl _))
noncomputable def wide_guess.Kl0 : List Item := .code (lopB (blkB (seqL (seqR (seqR (seqR (seqR wide_guess.C))))))) :: .inLoop (lopB (blkB (seqL (seqR (seqR (seqR (seqR wide_guess.C))))))) :: .inBlock 0 :: .code (seqR (seqR (seqR (seqR (seqR wide_guess.C))))) :: []
structure wide_guess.OK (h : wide_guess.Hs) : Prop where
 l0 : ∀ {H0 H : Hp} {L : Items} {r : Int} {jk_ : Nat → Value} {r_ : List Int} {d : List Int} {i : Int} {n : Int} {q : Int} {left : Int} {v_r_ : Value} {v_d : Value} (_ : H0.le H) (_he : h.l0 r_ d i n q left = some r) (_h_r_ : Src kU32 H L v_r_ r_) (_h_d : Src kU32 H L v_d d), Wp Tryz.prog 156 83 wide_guess.Kl0 (upd (upd (upd (upd (upd (upd (upd jk_ 0 (v_r_)) 1 (v_d)) 2 (.int .i64 i)) 6 (.int .u64 0)) 7 (.int .i64 n)) 9 (.int .u64 q)) 10 (.int .u64 left)) H (L) (wide_guess.R H0 L r)
theorem wide_guess.b0_ok {k : Nat} {h : wide_guess.Hs} (hh : wide_guess.OK h) {H0 H : Hp} {L : Items} {r : Int} {jk_ : Nat → Value} {r_ : List Int} {d : List Int} {i : Int} {n : Int} {q : Int} {left : Int} {v_r_ : Value} {v_d : Value} (hle : H0.le H) (he : wide_guess.b0 k h r_ d i n q left = some r) (h_r_ : Src kU32 H L v_r_ r_) (h_d : Src kU32 H L v_d d) : Wp Tryz.prog 156 83 wide_guess.Kl0 (upd (upd (upd (upd (upd (upd (upd jk_ 0 (v_r_)) 1 (v_d)) 2 (.int .i64 i)) 6 (.int .u64 0)) 7 (.int .i64 n)) 9 (.int .u64 q)) 10 (.int .u64 left)) H (L) (wide_guess.R H0 L r) := by
 unfold wide_guess.b0 at he
 unfold wide_guess.Kl0
 refine w_seq <| w_seq ?_
 obtain ⟨c16, he⟩ := rq he
 obtain ⟨c28, he⟩ := rq he
 refine w_drawn (p := 22) (tl := [22, 23]) [[], [(0, some 46)], [(1, some 47)], [(2, some 48)], [(2, some 48)], [(2, some 48)], [(2, some 48), (5, some 51)], [(2, some 48), (4, some 50), (6, some 52)], [(2, some 48), (7, some 53)], [(2, some 48), (8, some 54)], [(2, some 48), (3, some 49), (9, some 55)], [(2, some 48)], [(2, some 48), (11, some 57)], [(2, some 48)], [(2, some 48)], [(2, some 48)], [(2, some 48), (14, some 60), (15, some 61)], [(2, some 48), (16, some 62)], [(2, some 48), (13, some 59), (17, some 63)], [(2, some 48), (18, some 64)], [(2, some 48), (19, some 65)], [(2, some 48), (12, some 58), (20, some 66)]] [some 46, some 47, some 48, some 49, some 50, some 51, some 52, some 53, some 54, some 55, some 56, some 57, some 58, some 59, some 60, some 61, some 62, some 63, some 64, some 65, some 66, some 67] (fctF (.is (.int .u64 q) :: .is (.bool (decide (4294967296 ≤ q))) :: .is (.bool (decide (4294967296 ≤ q))) :: .is (cond (!(decide (4294967296 ≤ q))) (.int .u64 q) undef) :: .is (cond (!(decide (4294967296 ≤ q))) v_d undef) :: .is (cond (!(decide (4294967296 ≤ q))) (.int .i64 n) undef) :: .is (cond (!(decide (4294967296 ≤ q))) (.int .i64 (w64 (n - 2))) undef) :: .is (cond (!(decide (4294967296 ≤ q))) (.pointer (some (pel v_d (w64 (n - 2)) 1))) undef) :: .is (cond (!(decide (4294967296 ≤ q))) (.int .u32 (rd d (w64 (n - 2)))) undef) :: .is (cond (!(decide (4294967296 ≤ q))) (.int .u64 ((rd d (w64 (n - 2))) % 18446744073709551616)) undef) :: .is (cond (!(decide (4294967296 ≤ q))) (.int .u64 ((q * ((rd d (w64 (n - 2))) % 18446744073709551616)) % 18446744073709551616)) undef) :: .is (cond (!(decide (4294967296 ≤ q))) (.int .u64 left) undef) :: .is (cond (!(decide (4294967296 ≤ q))) (.int .u64 ((left * 4294967296) % 18446744073709551616)) undef) :: .is (cond (!(decide (4294967296 ≤ q))) v_r_ undef) :: .is (cond (!(decide (4294967296 ≤ q))) (.int .i64 i) undef) :: .is (cond (!(decide (4294967296 ≤ q))) (.int .i64 n) undef) :: .is (cond (!(decide (4294967296 ≤ q))) (.int .i64 (w64 (i + n))) undef) :: .is (cond (!(decide (4294967296 ≤ q))) (.int .i64 (w64 ((w64 (i + n)) - 2))) undef) :: .is (cond (!(decide (4294967296 ≤ q))) (.pointer (some (pel v_r_ (w64 ((w64 (i + n)) - 2)) 1))) undef) :: .is (cond (!(decide (4294967296 ≤ q))) (.int .u32 (rd r_ (w64 ((w64 (i + n)) - 2)))) undef) :: .is (cond (!(decide (4294967296 ≤ q))) (.int .u64 ((rd r_ (w64 ((w64 (i + n)) - 2))) % 18446744073709551616)) undef) :: .is (cond (!(decide (4294967296 ≤ q))) (.int .u64 (ior .u64 ((left * 4294967296) % 18446744073709551616) ((rd r_ (w64 ((w64 (i + n)) - 2))) % 18446744073709551616))) undef) :: [])) (fun m_ => L) (fun _ => none) mixed (by kernel_rfl) (by kernel_rfl) rfl (fct_mono (by kernel_rfl)) ⟨(fun H' m_ hH hm_ hu_ => dn <| s_d (m_ 0) rfl (d_move (v := .int .u64 q) rfl) (by exact rfl) rfl), (by rintro H' m_ hH hm_ hu_ _ rfl; exact dn <| s_d (m_ 1) rfl (d_geq rfl rfl) (by exact rfl) rfl), (by rintro H' m_ hH hm_ hu_ _ rfl; exact dn <| s_d (m_ 2) rfl (d_move (v := .bool (decide (4294967296 ≤ q))) rfl) (by exact rfl) rfl), (by rintro H' m_ hH hm_ hu_ _ rfl; exact dn <| s_g (g := !(decide (4294967296 ≤ q))) (m_ 3) rfl rfl rfl wn_f (fun g11 => d_move (v := .int .u64 q) rfl) rfl (by exact fun g_ => cvt g_) (by exact fun g_ => cnt g_)), (by rintro H' m_ hH hm_ hu_ _ rfl; exact dn <| s_g (g := !(decide (4294967296 ≤ q))) (m_ 4) rfl rfl rfl wn_f (fun g12 => d_move (v := v_d) rfl) rfl (by exact fun g_ => cvt g_) (by exact fun g_ => cnt g_)), (by rintro H' m_ hH hm_ hu_ _ rfl; exact dn <| s_g (g := !(decide (4294967296 ≤ q))) (m_ 5) rfl rfl rfl wn_f (fun g13 => d_move (v := .int .i64 n) rfl) rfl (by exact fun g_ => cvt g_) (by exact fun g_ => cnt g_)), (by rintro H' m_ hH hm_ hu_ _ rfl _ rfl; exact dn <| s_g (g := !(decide (4294967296 ≤ q))) (m_ 6) rfl rfl rfl wn_f (fun g14 => d_sub (c := w64 (n - 2)) (cvt g14) rfl rfl) rfl (by exact fun g_ => cvt g_) (by exact fun g_ => cnt g_)), (by rintro H' m_ hH hm_ hu_ _ rfl _ rfl _ rfl; exact dn <| s_g (g := !(decide (4294967296 ≤ q))) (m_ 7) rfl rfl rfl wn_f (fun g15 => d_index (sz := 1) Tryz.underlying22 sz167 (cvt g15) (h_d.mono hH) (cvt g15) (c16 g15)) rfl (by exact fun g_ => cvt g_) (by exact fun g_ => cnt g_)), (by rintro H' m_ hH hm_ hu_ _ rfl _ rfl; exact dn <| s_g (g := !(decide (4294967296 ≤ q))) (m_ 8) rfl rfl rfl wn_f (fun g17 => d_ldint ty167 (cvt g17) (h_d.mono hH) (c16 g17)) rfl (by exact fun g_ => cvt g_) (by exact fun g_ => cnt g_)), (by rintro H' m_ hH hm_ hu_ _ rfl _ rfl; exact dn <| s_g (g := !(decide (4294967296 ≤ q))) (m_ 9) rfl rfl rfl wn_f (fun g18 => d_conv (c := (rd d (w64 (n - 2))) % 18446744073709551616) Tryz.underlying167 Tryz.underlying113 (cvt g18) rfl) rfl (by exact fun g_ => cvt g_) (by exact fun g_ => cnt g_)), (by rintro H' m_ hH hm_ hu_ _ rfl _ rfl _ rfl; exact dn <| s_g (g := !(decide (4294967296 ≤ q))) (m_ 10) rfl rfl rfl wn_f (fun g19 => d_mul (c := (q * ((rd d (w64 (n - 2))) % 18446744073709551616)) % 18446744073709551616) (cvt g19) (cvt g19) rfl) rfl (by exact fun g_ => cvt g_) (by exact fun g_ => cnt g_)), (by rintro H' m_ hH hm_ hu_ _ rfl; exact dn <| s_g (g := !(decide (4294967296 ≤ q))) (m_ 11) rfl rfl rfl wn_f (fun g20 => d_move (v := .int .u64 left) rfl) rfl (by exact fun g_ => cvt g_) (by exact fun g_ => cnt g_)), (by rintro H' m_ hH hm_ hu_ _ rfl _ rfl; exact dn <| s_g (g := !(decide (4294967296 ≤ q))) (m_ 12) rfl rfl rfl wn_f (fun g21 => d_shl (c := (left * 4294967296) % 18446744073709551616) (cvt g21) rfl (by decide) rfl) rfl (by exact fun g_ => cvt g_) (by exact fun g_ => cnt g_)), (by rintro H' m_ hH hm_ hu_ _ rfl; exact dn <| s_g (g := !(decide (4294967296 ≤ q))) (m_ 13) rfl rfl rfl wn_f (fun g22 => d_move (v := v_r_) rfl) rfl (by exact fun g_ => cvt g_) (by exact fun g_ => cnt g_)), (by rintro H' m_ hH hm_ hu_ _ rfl; exact dn <| s_g (g := !(decide (4294967296 ≤ q))) (m_ 14) rfl rfl rfl wn_f (fun g23 => d_move (v := .int .i64 i) rfl) rfl (by exact fun g_ => cvt g_) (by exact fun g_ => cnt g_)), (by rintro H' m_ hH hm_ hu_ _ rfl; exact dn <| s_g (g := !(decide (4294967296 ≤ q))) (m_ 15) rfl rfl rfl wn_f (fun g24 => d_move (v := .int .i64 n) rfl) rfl (by exact fun g_ => cvt g_) (by exact fun g_ => cnt g_)), (by rintro H' m_ hH hm_ hu_ _ rfl _ rfl _ rfl; exact dn <| s_g (g := !(decide (4294967296 ≤ q))) (m_ 16) rfl rfl rfl wn_f (fun g25 => d_add (c := w64 (i + n)) (cvt g25) (cvt g25) rfl) rfl (by exact fun g_ => cvt g_) (by exact fun g_ => cnt g_)), (by rintro H' m_ hH hm_ hu_ _ rfl _ rfl; exact dn <| s_g (g := !(decide (4294967296 ≤ q))) (m_ 17) rfl rfl rfl wn_f (fun g26 => d_sub (c := w64 ((w64 (i + n)) - 2)) (cvt g26) rfl rfl) rfl (by exact fun g_ => cvt g_) (by exact fun g_ => cnt g_)), (by rintro H' m_ hH hm_ hu_ _ rfl _ rfl _ rfl; exact dn <| s_g (g := !(decide (4294967296 ≤ q))) (m_ 18) rfl rfl rfl wn_f (fun g27 => d_index (sz := 1) Tryz.underlying22 sz167 (cvt g27) (h_r_.mono hH) (cvt g27) (c28 g27)) rfl (by exact fun g_ => cvt g_) (by exact fun g_ => cnt g_)), (by rintro H' m_ hH hm_ hu_ _ rfl _ rfl; exact dn <| s_g (g := !(decide (4294967296 ≤ q))) (m_ 19) rfl rfl rfl wn_f (fun g29 => d_ldint ty167 (cvt g29) (h_r_.mono hH) (c28 g29)) rfl (by exact fun g_ => cvt g_) (by exact fun g_ => cnt g_)), (by rintro H' m_ hH hm_ hu_ _ rfl _ rfl; exact dn <| s_g (g := !(decide (4294967296 ≤ q))) (m_ 20) rfl rfl rfl wn_f (fun g30 => d_conv (c := (rd r_ (w64 ((w64 (i + n)) - 2))) % 18446744073709551616) Tryz.underlying167 Tryz.underlying113 (cvt g30) rfl) rfl (by exact fun g_ => cvt g_) (by exact fun g_ => cnt g_)), (by rintro H' m_ hH hm_ hu_ _ rfl _ rfl _ rfl; exact dn <| s_g (g := !(decide (4294967296 ≤ q))) (m_ 21) rfl rfl rfl wn_f (fun g31 => d_bor (cvt g31) (cvt g31)) rfl (by exact fun g_ => cvt g_) (by exact fun g_ => cnt g_)), trivial⟩ ?_
 intro H32 e33
 rintro _ _ rfl _ _ rfl _ _ rfl _ _ rfl _ _ rfl _ _ rfl _ _ rfl _ _ rfl _ _ rfl _ _ rfl _ _ rfl _ _ rfl _ _ rfl _ _ rfl _ _ rfl _ _ rfl _ _ rfl _ _ rfl _ _ rfl _ _ rfl _ _ rfl _ _ rfl
 refine w_g (g := !(decide (4294967296 ≤ q))) rfl rfl rfl wn_f (fun g34 => d_gtr (cvt g34) (cvt g34)) <| w_d rfl (d_or' (b := (decide (4294967296 ≤ q))) (p := (decide ((ior .u64 ((left * 4294967296) % 18446744073709551616) ((rd r_ (w64 ((w64 (i + n)) - 2))) % 18446744073709551616)) < ((q * ((rd d (w64 (n - 2))) % 18446744073709551616)) % 18446744073709551616)))) rfl rfl rfl) <| w_done ?_
 rcases its he with ⟨c35, he⟩ | ⟨c35, he⟩
 ·
  refine w_then rfl c35 <| w_skip <| w_block <| wR rfl <| wM (.int .u64 q) rfl rfl <| w_d rfl (d_sub (c := (q - 1) % 18446744073709551616) rfl rfl rfl) <| wA (.int .u64 ((q - 1) % 18446744073709551616)) rfl rfl <| wQ rfl <| wM (.int .u64 left) rfl rfl ?_
  refine wM v_d rfl rfl <| wM (.int .i64 n) rfl rfl <| w_d rfl (d_sub (c := w64 (n - 1)) rfl rfl rfl) ?_
  obtain ⟨c36, he⟩ := rq he
  refine w_d rfl (d_index (sz := 1) Tryz.underlying22 sz167 rfl (h_d.mono e33) rfl c36) <| w_d rfl (d_ldint ty167 rfl (h_d.mono e33) c36) <| w_d rfl (d_conv (c := (rd d (w64 (n - 1))) % 18446744073709551616) Tryz.underlying167 Tryz.underlying113 rfl rfl) <| w_d rfl (d_add (c := (left + ((rd d (w64 (n - 1))) % 18446744073709551616)) % 18446744073709551616) rfl rfl rfl) <| wA (.int .u64 ((left + ((rd d (w64 (n - 1))) % 18446744073709551616)) % 18446744073709551616)) rfl rfl <| wQ rfl <| wM (.int .u64 ((left + ((rd d (w64 (n - 1))) % 18446744073709551616)) % 18446744073709551616)) rfl rfl <| w_d rfl (d_geq rfl rfl) <| w_done ?_
  rcases its he with ⟨c37, he⟩ | ⟨c37, he⟩
  ·
   refine w_then rfl (dt c37) <| w_exit rfl <| wR rfl <| wM (.int .u64 ((q - 1) % 18446744073709551616)) rfl rfl <| wA (.int .u64 ((q - 1) % 18446744073709551616)) rfl rfl <| w_done ?_
   obtain rfl := sj he
   refine w_return fn_156 rs_156 (.tmp (v := .int .u64 ((q - 1) % 18446744073709551616)) rfl .nil) <| ⟨⟨[], rfl⟩, hle.trans e33, rfl⟩
  ·
   refine w_else rfl (df c37) <| w_skip <| w_inBlock <| w_inLoop <| w_sl 0 (v_r_) rfl <| w_sl 1 (v_d) rfl <| w_sl 2 (.int .i64 i) rfl <| w_sl 6 (.int .u64 0) rfl <| w_sl 7 (.int .i64 n) rfl <| w_sl 9 (.int .u64 ((q - 1) % 18446744073709551616)) rfl <| w_sl 10 (.int .u64 ((left + ((rd d (w64 (n - 1))) % 18446744073709551616)) % 18446744073709551616)) rfl <| hh.l0 (hle.trans e33) he (h_r_.mono e33) (h_d.mono e33)
 ·
  refine w_else rfl (Bool.eq_false_iff.2 c35) <| w_exit rfl <| wR rfl <| wM (.int .u64 q) rfl rfl <| wA (.int .u64 q) rfl rfl <| w_done ?_
  obtain rfl := sj he
  refine w_return fn_156 rs_156 (.tmp (v := .int .u64 q) rfl .nil) <| ⟨⟨[], rfl⟩, hle.trans e33, rfl⟩
theorem wide_guess.ok : ∀ k, wide_guess.OK (wide_guess.hs k)
 | 0 => ⟨(by intros; exact nomatch (show none = some _ from by assumption))⟩
 | k + 1 => ⟨wide_guess.b0_ok (k := k) (wide_guess.ok k)⟩
theorem wide_guess.calls (k : Nat) {H : Hp} {L : Items} {r_ : List Int} {d : List Int} {i : Int} {v0_r_ : Value} {v1_d : Value} {r : Int} (he : wide_guess.f k r_ d i = some r) (h0_r_ : Src kU32 H L v0_r_ r_) (h1_d : Src kU32 H L v1_d d) : Ct Tryz.prog 156 ⟨[v0_r_, v1_d, .int .i64 i]⟩ H L (fun v H' L' => L = L' ∧ H = H' ∧ v = .int .u64 r) := by
 refine ct_outs (O := wide_guess.out r) (fun _ _ h => h) ?_
 have hle : H.le H := .refl _
 have hh := wide_guess.ok k
 unfold wide_guess.f at he
 refine ct_enter (args := [v0_r_, v1_d, .int .i64 i]) fn_156 rfl nt_156 rfl <| wR rfl <| wA (.int .u64 0) rfl rfl <| wQ rfl <| wM v1_d rfl rfl <| w_d rfl (d_len Tryz.underlying22 rfl h1_d) <| wA (.int .i64 (d.length : Int)) rfl rfl <| wE ?_
 obtain ⟨c1, he⟩ := rq he
 obtain ⟨c2, he⟩ := rq he
 refine w_drawn (p := 16) (tl := [16, 17]) [[], [], [], [(1, some 14), (2, some 15)], [(0, some 13), (3, some 16)], [(4, some 17)], [(5, some 18)], [(6, some 19)], [], [], [], [(9, some 22), (10, some 23)], [(11, some 24)], [(8, some 21), (12, some 25)], [(13, some 26)], [(14, some 27)]] [some 13, some 14, some 15, some 16, some 17, some 18, some 19, some 20, some 21, some 22, some 23, some 24, some 25, some 26, some 27, some 28] (fctF (.is (v0_r_) :: .is (.int .i64 i) :: .is (.int .i64 (d.length : Int)) :: .is (.int .i64 (w64 (i + (d.length : Int)))) :: .is (.pointer (some (pel v0_r_ (w64 (i + (d.length : Int))) 1))) :: .is (.int .u32 (rd r_ (w64 (i + (d.length : Int))))) :: .is (.int .u64 ((rd r_ (w64 (i + (d.length : Int)))) % 18446744073709551616)) :: .is (.int .u64 ((((rd r_ (w64 (i + (d.length : Int)))) % 18446744073709551616) * 4294967296) % 18446744073709551616)) :: .is (v0_r_) :: .is (.int .i64 i) :: .is (.int .i64 (d.length : Int)) :: .is (.int .i64 (w64 (i + (d.length : Int)))) :: .is (.int .i64 (w64 ((w64 (i + (d.length : Int))) - 1))) :: .is (.pointer (some (pel v0_r_ (w64 ((w64 (i + (d.length : Int))) - 1)) 1))) :: .is (.int .u32 (rd r_ (w64 ((w64 (i + (d.length : Int))) - 1)))) :: .is (.int .u64 ((rd r_ (w64 ((w64 (i + (d.length : Int))) - 1))) % 18446744073709551616)) :: [])) (fun m_ => L) (fun _ => none) mixed (by kernel_rfl) (by kernel_rfl) rfl (fct_mono (by kernel_rfl)) ⟨(fun H' m_ hH hm_ hu_ => dn <| s_d (m_ 0) rfl (d_move (v := v0_r_) rfl) (by exact rfl) rfl), (fun H' m_ hH hm_ hu_ => dn <| s_d (m_ 1) rfl (d_move (v := .int .i64 i) rfl) (by exact rfl) rfl), (fun H' m_ hH hm_ hu_ => dn <| s_d (m_ 2) rfl (d_move (v := .int .i64 (d.length : Int)) rfl) (by exact rfl) rfl), (by rintro H' m_ hH hm_ hu_ _ rfl _ rfl; exact dn <| s_d (m_ 3) rfl (d_add (c := w64 (i + (d.length : Int))) rfl rfl rfl) (by exact rfl) rfl), (by rintro H' m_ hH hm_ hu_ _ rfl _ rfl; exact dn <| s_d (m_ 4) rfl (d_index (sz := 1) Tryz.underlying22 sz167 rfl (h0_r_.mono hH) rfl c1) (by exact rfl) rfl), (by rintro H' m_ hH hm_ hu_ _ rfl; exact dn <| s_d (m_ 5) rfl (d_ldint ty167 rfl (h0_r_.mono hH) c1) (by exact rfl) rfl), (by rintro H' m_ hH hm_ hu_ _ rfl; exact dn <| s_d (m_ 6) rfl (d_conv (c := (rd r_ (w64 (i + (d.length : Int)))) % 18446744073709551616) Tryz.underlying167 Tryz.underlying113 rfl rfl) (by exact rfl) rfl), (by rintro H' m_ hH hm_ hu_ _ rfl; exact dn <| s_d (m_ 7) rfl (d_shl (c := (((rd r_ (w64 (i + (d.length : Int)))) % 18446744073709551616) * 4294967296) % 18446744073709551616) rfl rfl (by decide) rfl) (by exact rfl) rfl), (fun H' m_ hH hm_ hu_ => dn <| s_d (m_ 8) rfl (d_move (v := v0_r_) rfl) (by exact rfl) rfl), (fun H' m_ hH hm_ hu_ => dn <| s_d (m_ 9) rfl (d_move (v := .int .i64 i) rfl) (by exact rfl) rfl), (fun H' m_ hH hm_ hu_ => dn <| s_d (m_ 10) rfl (d_move (v := .int .i64 (d.length : Int)) rfl) (by exact rfl) rfl), (by rintro H' m_ hH hm_ hu_ _ rfl _ rfl; exact dn <| s_d (m_ 11) rfl (d_add (c := w64 (i + (d.length : Int))) rfl rfl rfl) (by exact rfl) rfl), (by rintro H' m_ hH hm_ hu_ _ rfl; exact dn <| s_d (m_ 12) rfl (d_sub (c := w64 ((w64 (i + (d.length : Int))) - 1)) rfl rfl rfl) (by exact rfl) rfl), (by rintro H' m_ hH hm_ hu_ _ rfl _ rfl; exact dn <| s_d (m_ 13) rfl (d_index (sz := 1) Tryz.underlying22 sz167 rfl (h0_r_.mono hH) rfl c2) (by exact rfl) rfl), (by rintro H' m_ hH hm_ hu_ _ rfl; exact dn <| s_d (m_ 14) rfl (d_ldint ty167 rfl (h0_r_.mono hH) c2) (by exact rfl) rfl), (by rintro H' m_ hH hm_ hu_ _ rfl; exact dn <| s_d (m_ 15) rfl (d_conv (c := (rd r_ (w64 ((w64 (i + (d.length : Int))) - 1))) % 18446744073709551616) Tryz.underlying167 Tryz.underlying113 rfl rfl) (by exact rfl) rfl), trivial⟩ ?_
 intro H3 e4
 rintro _ _ rfl _ _ rfl _ _ rfl _ _ rfl _ _ rfl _ _ rfl _ _ rfl _ _ rfl _ _ rfl _ _ rfl _ _ rfl _ _ rfl _ _ rfl _ _ rfl _ _ rfl _ _ rfl
 refine w_d rfl (d_bor rfl rfl) <| wA (.int .u64 (ior .u64 ((((rd r_ (w64 (i + (d.length : Int)))) % 18446744073709551616) * 4294967296) % 18446744073709551616) ((rd r_ (w64 ((w64 (i + (d.length : Int))) - 1))) % 18446744073709551616))) rfl rfl <| wE ?_
 obtain ⟨c5, he⟩ := rq he
 obtain ⟨c6, he⟩ := rq he
 obtain ⟨c7, he⟩ := rq he
 obtain ⟨c8, he⟩ := rq he
 refine w_drawn (p := 17) (tl := [17]) [[], [], [], [(2, some 32)], [(1, some 31), (3, some 33)], [(4, some 34)], [(5, some 35)], [(0, some 30), (6, some 36)], [], [], [], [(10, some 40)], [(9, some 39), (11, some 41)], [(12, some 42)], [(13, some 43)], [(8, some 38), (14, some 44)], [(7, some 37)]] [some 30, some 31, some 32, some 33, some 34, some 35, some 36, some 37, some 38, some 39, some 40, some 41, some 42, some 43, some 44, some 45, some 9] (fctF (.is (.int .u64 (ior .u64 ((((rd r_ (w64 (i + (d.length : Int)))) % 18446744073709551616) * 4294967296) % 18446744073709551616) ((rd r_ (w64 ((w64 (i + (d.length : Int))) - 1))) % 18446744073709551616))) :: .is (v1_d) :: .is (.int .i64 (d.length : Int)) :: .is (.int .i64 (w64 ((d.length : Int) - 1))) :: .is (.pointer (some (pel v1_d (w64 ((d.length : Int) - 1)) 1))) :: .is (.int .u32 (rd d (w64 ((d.length : Int) - 1)))) :: .is (.int .u64 ((rd d (w64 ((d.length : Int) - 1))) % 18446744073709551616)) :: .is (.int .u64 ((Int.tdiv (ior .u64 ((((rd r_ (w64 (i + (d.length : Int)))) % 18446744073709551616) * 4294967296) % 18446744073709551616) ((rd r_ (w64 ((w64 (i + (d.length : Int))) - 1))) % 18446744073709551616)) ((rd d (w64 ((d.length : Int) - 1))) % 18446744073709551616)) % 18446744073709551616)) :: .is (.int .u64 (ior .u64 ((((rd r_ (w64 (i + (d.length : Int)))) % 18446744073709551616) * 4294967296) % 18446744073709551616) ((rd r_ (w64 ((w64 (i + (d.length : Int))) - 1))) % 18446744073709551616))) :: .is (v1_d) :: .is (.int .i64 (d.length : Int)) :: .is (.int .i64 (w64 ((d.length : Int) - 1))) :: .is (.pointer (some (pel v1_d (w64 ((d.length : Int) - 1)) 1))) :: .is (.int .u32 (rd d (w64 ((d.length : Int) - 1)))) :: .is (.int .u64 ((rd d (w64 ((d.length : Int) - 1))) % 18446744073709551616)) :: .is (.int .u64 (Int.tmod (ior .u64 ((((rd r_ (w64 (i + (d.length : Int)))) % 18446744073709551616) * 4294967296) % 18446744073709551616) ((rd r_ (w64 ((w64 (i + (d.length : Int))) - 1))) % 18446744073709551616)) ((rd d (w64 ((d.length : Int) - 1))) % 18446744073709551616))) :: .is (.int .u64 ((Int.tdiv (ior .u64 ((((rd r_ (w64 (i + (d.length : Int)))) % 18446744073709551616) * 4294967296) % 18446744073709551616) ((rd r_ (w64 ((w64 (i + (d.length : Int))) - 1))) % 18446744073709551616)) ((rd d (w64 ((d.length : Int) - 1))) % 18446744073709551616)) % 18446744073709551616)) :: [])) (fun m_ => L) (fun _ => none) mixed (by kernel_rfl) (by kernel_rfl) rfl (fct_mono (by kernel_rfl)) ⟨(fun H' m_ hH hm_ hu_ => dn <| s_d (m_ 0) rfl (d_move (v := .int .u64 (ior .u64 ((((rd r_ (w64 (i + (d.length : Int)))) % 18446744073709551616) * 4294967296) % 18446744073709551616) ((rd r_ (w64 ((w64 (i + (d.length : Int))) - 1))) % 18446744073709551616))) rfl) (by exact rfl) rfl), (fun H' m_ hH hm_ hu_ => dn <| s_d (m_ 1) rfl (d_move (v := v1_d) rfl) (by exact rfl) rfl), (fun H' m_ hH hm_ hu_ => dn <| s_d (m_ 2) rfl (d_move (v := .int .i64 (d.length : Int)) rfl) (by exact rfl) rfl), (by rintro H' m_ hH hm_ hu_ _ rfl; exact dn <| s_d (m_ 3) rfl (d_sub (c := w64 ((d.length : Int) - 1)) rfl rfl rfl) (by exact rfl) rfl), (by rintro H' m_ hH hm_ hu_ _ rfl _ rfl; exact dn <| s_d (m_ 4) rfl (d_index (sz := 1) Tryz.underlying22 sz167 rfl (h1_d.mono (e4.trans hH)) rfl c5) (by exact rfl) rfl), (by rintro H' m_ hH hm_ hu_ _ rfl; exact dn <| s_d (m_ 5) rfl (d_ldint ty167 rfl (h1_d.mono (e4.trans hH)) c5) (by exact rfl) rfl), (by rintro H' m_ hH hm_ hu_ _ rfl; exact dn <| s_d (m_ 6) rfl (d_conv (c := (rd d (w64 ((d.length : Int) - 1))) % 18446744073709551616) Tryz.underlying167 Tryz.underlying113 rfl rfl) (by exact rfl) rfl), (by rintro H' m_ hH hm_ hu_ _ rfl _ rfl; exact dn <| s_d (m_ 7) rfl (d_quo (c := (Int.tdiv (ior .u64 ((((rd r_ (w64 (i + (d.length : Int)))) % 18446744073709551616) * 4294967296) % 18446744073709551616) ((rd r_ (w64 ((w64 (i + (d.length : Int))) - 1))) % 18446744073709551616)) ((rd d (w64 ((d.length : Int) - 1))) % 18446744073709551616)) % 18446744073709551616) rfl rfl c6 rfl) (by exact rfl) rfl), (fun H' m_ hH hm_ hu_ => dn <| s_d (m_ 8) rfl (d_move (v := .int .u64 (ior .u64 ((((rd r_ (w64 (i + (d.length : Int)))) % 18446744073709551616) * 4294967296) % 18446744073709551616) ((rd r_ (w64 ((w64 (i + (d.length : Int))) - 1))) % 18446744073709551616))) rfl) (by exact rfl) rfl), (fun H' m_ hH hm_ hu_ => dn <| s_d (m_ 9) rfl (d_move (v := v1_d) rfl) (by exact rfl) rfl), (fun H' m_ hH hm_ hu_ => dn <| s_d (m_ 10) rfl (d_move (v := .int .i64 (d.length : Int)) rfl) (by exact rfl) rfl), (by rintro H' m_ hH hm_ hu_ _ rfl; exact dn <| s_d (m_ 11) rfl (d_sub (c := w64 ((d.length : Int) - 1)) rfl rfl rfl) (by exact rfl) rfl), (by rintro H' m_ hH hm_ hu_ _ rfl _ rfl; exact dn <| s_d (m_ 12) rfl (d_index (sz := 1) Tryz.underlying22 sz167 rfl (h1_d.mono (e4.trans hH)) rfl c7) (by exact rfl) rfl), (by rintro H' m_ hH hm_ hu_ _ rfl; exact dn <| s_d (m_ 13) rfl (d_ldint ty167 rfl (h1_d.mono (e4.trans hH)) c7) (by exact rfl) rfl), (by rintro H' m_ hH hm_ hu_ _ rfl; exact dn <| s_d (m_ 14) rfl (d_conv (c := (rd d (w64 ((d.length : Int) - 1))) % 18446744073709551616) Tryz.underlying167 Tryz.underlying113 rfl rfl) (by exact rfl) rfl), (by rintro H' m_ hH hm_ hu_ _ rfl _ rfl; exact dn <| s_d (m_ 15) rfl (d_rem rfl rfl c8) (by exact rfl) rfl), (by rintro H' m_ hH hm_ hu_ _ rfl; exact dn <| s_d (m_ 16) rfl (d_assign (v := .int .u64 ((Int.tdiv (ior .u64 ((((rd r_ (w64 (i + (d.length : Int)))) % 18446744073709551616) * 4294967296) % 18446744073709551616) ((rd r_ (w64 ((w64 (i + (d.length : Int))) - 1))) % 18446744073709551616)) ((rd d (w64 ((d.length : Int) - 1))) % 18446744073709551616)) % 18446744073709551616)) rfl) (by exact rfl) rfl), trivial⟩ ?_
 intro H9 e10
 rintro _ _ rfl _ _ rfl _ _ rfl _ _ rfl _ _ rfl _ _ rfl _ _ rfl _ _ rfl _ _ rfl _ _ rfl _ _ rfl _ _ rfl _ _ rfl _ _ rfl _ _ rfl _ _ rfl _ _ rfl
 refine wA (.int .u64 (Int.tmod (ior .u64 ((((rd r_ (w64 (i + (d.length : Int)))) % 18446744073709551616) * 4294967296) % 18446744073709551616) ((rd r_ (w64 ((w64 (i + (d.length : Int))) - 1))) % 18446744073709551616)) ((rd d (w64 ((d.length : Int) - 1))) % 18446744073709551616))) rfl rfl <| wE <| w_block <| w_loop <| w_sl 0 (v0_r_) rfl <| w_sl 1 (v1_d) rfl <| w_sl 2 (.int .i64 i) rfl <| w_sl 6 (.int .u64 0) rfl <| w_sl 7 (.int .i64 (d.length : Int)) rfl <| w_sl 9 (.int .u64 ((Int.tdiv (ior .u64 ((((rd r_ (w64 (i + (d.length : Int)))) % 18446744073709551616) * 4294967296) % 18446744073709551616) ((rd r_ (w64 ((w64 (i + (d.length : Int))) - 1))) % 18446744073709551616)) ((rd d (w64 ((d.length : Int) - 1))) % 18446744073709551616)) % 18446744073709551616)) rfl <| w_sl 10 (.int .u64 (Int.tmod (ior .u64 ((((rd r_ (w64 (i + (d.length : Int)))) % 18446744073709551616) * 4294967296) % 18446744073709551616) ((rd r_ (w64 ((w64 (i + (d.length : Int))) - 1))) % 18446744073709551616)) ((rd d (w64 ((d.length : Int) - 1))) % 18446744073709551616))) rfl <| hh.l0 (hle.trans (e4.trans e10)) he (h0_r_.mono (e4.trans e10)) (h1_d.mono (e4.trans e10))
noncomputable def wide_takeOff.C : Code := (Tryz.f157.body).getD .skip
def wide_takeOff.out (r : Bool × (List Int)) (H : Hp) (v : Value) : Prop := v = .bool r.1
abbrev wide_takeOff.R (vr_ : Value) (H0 : Hp) (L : Items) (r : Bool × (List Int)) : Value → Hp → Items → Prop := fun v H' L' => (∃ p it', L' = p ++ it' :: L ∧ Sl kU32 H' 167 it' vr_ r.2) ∧ H0.le H' ∧ v = .bool r.1
structure wide_takeOff.Hs where
 l0 : (List Int) → (List Int) → Int → Int → Int → Int → Int → Option (Bool × (List Int))
noncomputable def wide_takeOff.j2 (k : Nat) (h : wide_takeOff.Hs)  (r_ : List Int) (d : List Int) (i : Int) (q : Int) (borrow : Int) (carry : Int) (j_ : Int) (p : Int) : Option (Bool × (List Int)) := if (0 : Int) ≤ w64 (i + j_) ∧ w64 (i + j_) < (r_.length : Int) then (if (0 : Int) ≤ w64 (i + j_) ∧ w64 (i + j_) < (r_.length : Int) then (h.l0 (r_.set (w64 (i + j_) : Int).toNat ((w64 ((w64 ((w64 (rd r_ (w64 (i + j_)))) - (w64 ((p) % 4294967296)))) + borrow)) % 4294967296)) d i q ((w64 ((w64 ((w64 (rd r_ (w64 (i + j_)))) - (w64 ((p) % 4294967296)))) + borrow)) / 4294967296) (p / 4294967296) (w64 (j_ + 1))) else none) else none
noncomputable def wide_takeOff.b0 (k : Nat) (h : wide_takeOff.Hs)  (r_ : List Int) (d : List Int) (i : Int) (q : Int) (borrow : Int) (carry : Int) (j_ : Int) : Option (Bool × (List Int)) := if j_ ≤ (d.length : Int) then (if j_ < (d.length : Int) then (if (0 : Int) ≤ j_ ∧ j_ < (d.length : Int) then (wide_takeOff.j2 k h r_ d i q borrow carry j_ ((carry + ((q * ((rd d j_) % 18446744073709551616)) % 18446744073709551616)) % 18446744073709551616)) else none) else (wide_takeOff.j2 k h r_ d i q borrow carry j_ carry)) else (some (decide (borrow < 0), r_))
noncomputable def wide_takeOff.hs : Nat → wide_takeOff.Hs
 | 0 => ⟨fun _ _ _ _ _ _ _ => none⟩
 | k + 1 => ⟨fun x0 x1 x2 x3 x4 x5 x6 => wide_takeOff.b0 k (wide_takeOff.hs k) x0 x1 x2 x3 x4 x5 x6⟩
noncomputable def wide_takeOff.f (k : Nat) (r_ : List Int) (d : List Int) (i : Int) (q : Int) : Option (Bool × (List Int)) := (fun h : wide_takeOff.Hs => h.l0 r_ d i q 0 0 0) (wide_takeOff.hs k)
structure wide_takeOff.LE (h h' : wide_takeOff.Hs) : Prop where
 l0 : ∀ y0 y1 y2 y3 y4 y5 y6, LeO (h.l0 y0 y1 y2 y3 y4 y5 y6) (h'.l0 y0 y1 y2 y3 y4 y5 y6)
theorem wide_takeOff.j2_mono {k : Nat} {h h' : wide_takeOff.Hs} (hl : wide_takeOff.LE h h') : ∀ y0 y1 y2 y3 y4 y5 y6 y7, LeO (wide_takeOff.j2 k h y0 y1 y2 y3 y4 y5 y6 y7) (wide_takeOff.j2 (k + 1) h' y0 y1 y2 y3 y4 y5 y6 y7) := fun _ _ _ _ _ _ _ _ => (LeO.ite (LeO.ite (hl.l0 _ _ _ _ _ _ _) (LeO.refl _)) (LeO.refl _))
theorem wide_takeOff.b0_mono {k : Nat} {h h' : wide_takeOff.Hs} (hl : wide_takeOff.LE h h') : ∀ y0 y1 y2 y3 y4 y5 y6, LeO (wide_takeOff.b0 k h y0 y1 y2 y3 y4 y5 y6) (wide_takeOff.b0 (k + 1) h' y0 y1 y2 y3 y4 y5 y6) := fun _ _ _ _ _ _ _ => (LeO.ite (LeO.ite (LeO.ite (wide_takeOff.j2_mono (k := k) hl _ _ _ _ _ _ _ _) (LeO.refl _)) (wide_takeOff.j2_mono (k := k) hl _ _ _ _ _ _ _ _)) (LeO.refl _))
theorem wide_takeOff.hs_mono : ∀ k, wide_takeOff.LE (wide_takeOff.hs k) (wide_takeOff.hs (k + 1))
 | 0 => ⟨fun _ _ _ _ _ _ _ => LeO.none _⟩
 | k + 1 => ⟨wide_takeOff.b0_mono (k := k) (wide_takeOff.hs_mono k)⟩
theorem wide_takeOff.mono : ∀ k y0 y1 y2 y3, LeO (wide_takeOff.f k y0 y1 y2 y3) (wide_takeOff.f (k + 1) y0 y1 y2 y3) := fun k _ _ _ _ => have hl := wide_takeOff.hs_mono k; by unfold wide_takeOff.f; exact (hl.l0 _ _ _ _ _ _ _)
noncomputable def wide_takeOff.Kl0 : List Item := .code (lopB (blkB (seqR (seqL (seqR (seqR (seqR wide_takeOff.C))))))) :: .inLoop (lopB (blkB (seqR (seqL (seqR (seqR (seqR wide_takeOff.C))))))) :: .inBlock 0 :: .code (seqR (seqR (seqR (seqR wide_takeOff.C)))) :: []
noncomputable def wide_takeOff.Kj2 : List Item := .code (seqR (seqR (blkB (seqL (seqR (lopB (blkB (seqR (seqL (seqR (seqR (seqR wide_takeOff.C)))))))))))) :: .inBlock 1 :: .code (seqR (seqR (lopB (blkB (seqR (seqL (seqR (seqR (seqR wide_takeOff.C))))))))) :: .inLoop (lopB (blkB (seqR (seqL (seqR (seqR (seqR wide_takeOff.C))))))) :: .inBlock 0 :: .code (seqR (seqR (seqR (seqR wide_takeOff.C)))) :: []
structure wide_takeOff.OK (h : wide_takeOff.Hs) : Prop where
 l0 : ∀ {H0 H : Hp} {L : Items} {r : Bool × (List Int)} {jk_ : Nat → Value} {r_ : List Int} {d : List Int} {i : Int} {q : Int} {borrow : Int} {carry : Int} {j_ : Int} {vr_ : Value} {v_d : Value} {i_r_ : Item'} (_ : H0.le H) (_he : h.l0 r_ d i q borrow carry j_ = some r) (_h_r_ : Sl kU32 H 167 i_r_ vr_ r_) (_h_d : Src kU32 H L v_d d), Wp Tryz.prog 157 60 wide_takeOff.Kl0 (upd (upd (upd (upd (upd (upd (upd (upd jk_ 0 (vr_)) 1 (v_d)) 2 (.int .i64 i)) 3 (.int .u64 q)) 8 (.bool false)) 9 (.int .i64 borrow)) 10 (.int .u64 carry)) 11 (.int .i64 j_)) H (i_r_ :: L) (wide_takeOff.R vr_ H0 L r)
theorem wide_takeOff.j2_ok {k : Nat} {h : wide_takeOff.Hs} (hh : wide_takeOff.OK h) {H0 H : Hp} {L : Items} {r : Bool × (List Int)} {jk_ : Nat → Value} {r_ : List Int} {d : List Int} {i : Int} {q : Int} {borrow : Int} {carry : Int} {j_ : Int} {p : Int} {vr_ : Value} {v_d : Value} {i_r_ : Item'} (hle : H0.le H) (he : wide_takeOff.j2 k h r_ d i q borrow carry j_ p = some r) (h_r_ : Sl kU32 H 167 i_r_ vr_ r_) (h_d : Src kU32 H L v_d d) : Wp Tryz.prog 157 60 wide_takeOff.Kj2 (upd (upd (upd (upd (upd (upd (upd (upd (upd jk_ 0 (vr_)) 1 (v_d)) 2 (.int .i64 i)) 3 (.int .u64 q)) 8 (.bool false)) 9 (.int .i64 borrow)) 10 (.int .u64 carry)) 11 (.int .i64 j_)) 12 (.int .u64 p)) H (i_r_ :: L) (wide_takeOff.R vr_ H0 L r) := by
 unfold wide_takeOff.j2 at he
 unfold wide_takeOff.Kj2
 refine wR rfl <| wM (.int .u64 p) rfl rfl <| w_d rfl (d_shr (c := p / 4294967296) rfl rfl (by decide) rfl) <| wA (.int .u64 (p / 4294967296)) rfl rfl <| wQ rfl <| wM vr_ rfl rfl <| wM (.int .i64 i) rfl rfl <| wM (.int .i64 j_) rfl rfl <| w_d rfl (d_add (c := w64 (i + j_)) rfl rfl rfl) ?_
 obtain ⟨c4, he⟩ := rq he
 refine w_d rfl (d_indexS (sz := 1) Tryz.underlying22 sz167 rfl h_r_.shp rfl c4) <| w_d rfl (d_ldint ty167 rfl (h_r_.src .here) c4) <| w_d rfl (d_conv (c := w64 (rd r_ (w64 (i + j_)))) Tryz.underlying167 Tryz.underlying2 rfl rfl) <| wM (.int .u64 p) rfl rfl <| w_d rfl (d_conv (c := (p) % 4294967296) Tryz.underlying113 Tryz.underlying167 rfl rfl) <| w_d rfl (d_conv (c := w64 ((p) % 4294967296)) Tryz.underlying167 Tryz.underlying2 rfl rfl) <| w_d rfl (d_sub (c := w64 ((w64 (rd r_ (w64 (i + j_)))) - (w64 ((p) % 4294967296)))) rfl rfl rfl) <| wM (.int .i64 borrow) rfl rfl <| w_d rfl (d_add (c := w64 ((w64 ((w64 (rd r_ (w64 (i + j_)))) - (w64 ((p) % 4294967296)))) + borrow)) rfl rfl rfl) <| wA (.int .i64 (w64 ((w64 ((w64 (rd r_ (w64 (i + j_)))) - (w64 ((p) % 4294967296)))) + borrow))) rfl rfl <| wE ?_
 refine w_region rfl <| wM vr_ rfl rfl <| wM (.int .i64 i) rfl rfl <| wM (.int .i64 j_) rfl rfl <| w_d rfl (d_add (c := w64 (i + j_)) rfl rfl rfl) <| wM (.int .i64 (w64 ((w64 ((w64 (rd r_ (w64 (i + j_)))) - (w64 ((p) % 4294967296)))) + borrow))) rfl rfl <| w_d rfl (d_conv (c := (w64 ((w64 ((w64 (rd r_ (w64 (i + j_)))) - (w64 ((p) % 4294967296)))) + borrow)) % 4294967296) Tryz.underlying2 Tryz.underlying167 rfl rfl) ?_
 obtain ⟨c5, he⟩ := rq he
 refine w_d rfl (d_indexS (sz := 1) Tryz.underlying22 sz167 rfl h_r_.shp rfl c5) <| w_a0 rfl (o_storeEl (kd := kU32) (v := .int .u32 ((w64 ((w64 ((w64 (rd r_ (w64 (i + j_)))) - (w64 ((p) % 4294967296)))) + borrow)) % 4294967296)) (F := fun z_ => z_ :: L) sz167 rfl rfl rfl rfl h_r_ c5 (fun _ => .here)) ?_
 rintro _ _ _ ⟨i6, rfl, rfl, rfl, h7⟩
 refine w_done <| w_region rfl <| wM (.int .i64 (w64 ((w64 ((w64 (rd r_ (w64 (i + j_)))) - (w64 ((p) % 4294967296)))) + borrow))) rfl rfl <| w_d rfl (d_shr (c := (w64 ((w64 ((w64 (rd r_ (w64 (i + j_)))) - (w64 ((p) % 4294967296)))) + borrow)) / 4294967296) rfl rfl (by decide) rfl) <| wA (.int .i64 ((w64 ((w64 ((w64 (rd r_ (w64 (i + j_)))) - (w64 ((p) % 4294967296)))) + borrow)) / 4294967296)) rfl rfl <| w_done <| w_inBlock <| w_region rfl <| wM (.int .i64 j_) rfl rfl <| w_d rfl (d_add (c := w64 (j_ + 1)) rfl rfl rfl) <| wA (.int .i64 (w64 (j_ + 1))) rfl rfl <| w_done ?_
 refine w_inLoop <| w_sl 0 (vr_) rfl <| w_sl 1 (v_d) rfl <| w_sl 2 (.int .i64 i) rfl <| w_sl 3 (.int .u64 q) rfl <| w_sl 8 (.bool false) rfl <| w_sl 9 (.int .i64 ((w64 ((w64 ((w64 (rd r_ (w64 (i + j_)))) - (w64 ((p) % 4294967296)))) + borrow)) / 4294967296)) rfl <| w_sl 10 (.int .u64 (p / 4294967296)) rfl <| w_sl 11 (.int .i64 (w64 (j_ + 1))) rfl <| hh.l0 hle he h7 h_d
theorem wide_takeOff.b0_ok {k : Nat} {h : wide_takeOff.Hs} (hh : wide_takeOff.OK h) {H0 H : Hp} {L : Items} {r : Bool × (List Int)} {jk_ : Nat → Value} {r_ : List Int} {d : List Int} {i : Int} {q : Int} {borrow : Int} {carry : Int} {j_ : Int} {vr_ : Value} {v_d : Value} {i_r_ : Item'} (hle : H0.le H) (he : wide_takeOff.b0 k h r_ d i q borrow carry j_ = some r) (h_r_ : Sl kU32 H 167 i_r_ vr_ r_) (h_d : Src kU32 H L v_d d) : Wp Tryz.prog 157 60 wide_takeOff.Kl0 (upd (upd (upd (upd (upd (upd (upd (upd jk_ 0 (vr_)) 1 (v_d)) 2 (.int .i64 i)) 3 (.int .u64 q)) 8 (.bool false)) 9 (.int .i64 borrow)) 10 (.int .u64 carry)) 11 (.int .i64 j_)) H (i_r_ :: L) (wide_takeOff.R vr_ H0 L r) := by
 unfold wide_takeOff.b0 at he
 unfold wide_takeOff.Kl0
 refine w_seq <| wR rfl <| wM (.int .i64 j_) rfl rfl <| wM v_d rfl rfl <| w_d rfl (d_len Tryz.underlying22 rfl h_d.th) <| w_d rfl (d_leq rfl rfl) <| w_done ?_
 rcases its he with ⟨c1, he⟩ | ⟨c1, he⟩
 ·
  refine w_then rfl (dt c1) <| w_skip <| w_seq <| w_block <| wR rfl <| wM (.int .u64 carry) rfl rfl <| wA (.int .u64 carry) rfl rfl <| wE <| wR rfl ?_
  refine wM (.int .i64 j_) rfl rfl <| wM v_d rfl rfl <| w_d rfl (d_len Tryz.underlying22 rfl h_d.th) <| w_d rfl (d_lss rfl rfl) <| w_done ?_
  rcases its he with ⟨c2, he⟩ | ⟨c2, he⟩
  ·
   refine w_then rfl (dt c2) <| w_region rfl <| wM (.int .u64 carry) rfl rfl <| wM (.int .u64 q) rfl rfl <| wM v_d rfl rfl <| wM (.int .i64 j_) rfl rfl ?_
   obtain ⟨c3, he⟩ := rq he
   refine w_d rfl (d_index (sz := 1) Tryz.underlying22 sz167 rfl h_d.th rfl c3) <| w_d rfl (d_ldint ty167 rfl h_d.th c3) <| w_d rfl (d_conv (c := (rd d j_) % 18446744073709551616) Tryz.underlying167 Tryz.underlying113 rfl rfl) <| w_d rfl (d_mul (c := (q * ((rd d j_) % 18446744073709551616)) % 18446744073709551616) rfl rfl rfl) <| w_d rfl (d_add (c := (carry + ((q * ((rd d j_) % 18446744073709551616)) % 18446744073709551616)) % 18446744073709551616) rfl rfl rfl) <| wA (.int .u64 ((carry + ((q * ((rd d j_) % 18446744073709551616)) % 18446744073709551616)) % 18446744073709551616)) rfl rfl <| w_done <| w_sl 0 (vr_) rfl <| w_sl 1 (v_d) rfl <| w_sl 2 (.int .i64 i) rfl <| w_sl 3 (.int .u64 q) rfl <| w_sl 8 (.bool false) rfl ?_
   refine w_sl 9 (.int .i64 borrow) rfl <| w_sl 10 (.int .u64 carry) rfl <| w_sl 11 (.int .i64 j_) rfl <| w_sl 12 (.int .u64 ((carry + ((q * ((rd d j_) % 18446744073709551616)) % 18446744073709551616)) % 18446744073709551616)) rfl <| wide_takeOff.j2_ok (k := k) hh hle he h_r_ h_d
  ·
   refine w_else rfl (df c2) <| w_skip <| w_sl 0 (vr_) rfl <| w_sl 1 (v_d) rfl <| w_sl 2 (.int .i64 i) rfl <| w_sl 3 (.int .u64 q) rfl <| w_sl 8 (.bool false) rfl <| w_sl 9 (.int .i64 borrow) rfl <| w_sl 10 (.int .u64 carry) rfl <| w_sl 11 (.int .i64 j_) rfl <| w_sl 12 (.int .u64 carry) rfl <| wide_takeOff.j2_ok (k := k) hh hle he h_r_ h_d
 ·
  refine w_else rfl (df c1) <| w_exit rfl <| wR rfl <| wM (.int .i64 borrow) rfl rfl <| w_d rfl (d_lss rfl rfl) <| wA (.bool (decide (borrow < 0))) rfl rfl <| w_done ?_
  obtain rfl := sj he
  refine w_return fn_157 rs_157 (.tmp (v := .bool (decide (borrow < 0))) rfl .nil) <| ⟨⟨[], _, rfl, h_r_⟩, hle, rfl⟩
theorem wide_takeOff.ok : ∀ k, wide_takeOff.OK (wide_takeOff.hs k)
 | 0 => ⟨(by intros; exact nomatch (show none = some _ from by assumption))⟩
 | k + 1 => ⟨wide_takeOff.b0_ok (k := k) (wide_takeOff.ok k)⟩
theorem wide_takeOff.calls (k : Nat) {H : Hp} {L : Items} {r_ : List Int} {d : List Int} {i : Int} {q : Int} {vr_ : Value} {it_ : Item'} {v0_d : Value} {r : Bool × (List Int)} (he : wide_takeOff.f k r_ d i q = some r) (hr_ : Sl kU32 H 167 it_ vr_ r_) (h0_d : Src kU32 H L v0_d d) : Ct Tryz.prog 157 ⟨[vr_, v0_d, .int .i64 i, .int .u64 q]⟩ H (it_ :: L) (fun v H' L' => ∃ it', L' = it' :: L ∧ H.le H' ∧ Sl kU32 H' 167 it' vr_ r.2 ∧ v = .bool r.1) := by
 refine ct_mut (Q := fun v => v = .bool r.1) ?_
 have hle : H.le H := .refl _
 have hh := wide_takeOff.ok k
 unfold wide_takeOff.f at he
 refine ct_enter (args := [vr_, v0_d, .int .i64 i, .int .u64 q]) fn_157 rfl nt_157 rfl <| wR rfl <| wA (.bool false) rfl rfl <| wQ rfl <| wA (.int .i64 0) rfl rfl <| wQ rfl <| wA (.int .u64 0) rfl rfl ?_
 refine wE <| wR rfl <| wA (.int .i64 0) rfl rfl <| w_done <| w_block <| w_loop <| w_sl 0 (vr_) rfl <| w_sl 1 (v0_d) rfl <| w_sl 2 (.int .i64 i) rfl <| w_sl 3 (.int .u64 q) rfl ?_
 refine w_sl 8 (.bool false) rfl <| w_sl 9 (.int .i64 0) rfl <| w_sl 10 (.int .u64 0) rfl <| w_sl 11 (.int .i64 0) rfl <| hh.l0 hle he hr_ h0_d
noncomputable def wide_giveBack.C : Code := (Tryz.f158.body).getD .skip
def wide_giveBack.out (r : (List Int)) (H : Hp) (v : Value) : Prop := v = .tuple ⟨[]⟩
abbrev wide_giveBack.R (vr_ : Value) (H0 : Hp) (L : Items) (r : (List Int)) : Value → Hp → Items → Prop := fun v H' L' => (∃ p it', L' = p ++ it' :: L ∧ Sl kU32 H' 167 it' vr_ r) ∧ H0.le H' ∧ v = .tuple ⟨[]⟩
structure wide_giveBack.Hs where
 l0 : (List Int) → (List Int) → Int → Int → Int → Option (List Int)
noncomputable def wide_giveBack.j2 (k : Nat) (h : wide_giveBack.Hs)  (r_ : List Int) (d : List Int) (i : Int) (carry : Int) (j_ : Int) (s : Int) : Option (List Int) := if (0 : Int) ≤ w64 (i + j_) ∧ w64 (i + j_) < (r_.length : Int) then (h.l0 (r_.set (w64 (i + j_) : Int).toNat ((s) % 4294967296)) d i (s / 4294967296) (w64 (j_ + 1))) else none
noncomputable def wide_giveBack.b0 (k : Nat) (h : wide_giveBack.Hs)  (r_ : List Int) (d : List Int) (i : Int) (carry : Int) (j_ : Int) : Option (List Int) := if j_ ≤ (d.length : Int) then (if (0 : Int) ≤ w64 (i + j_) ∧ w64 (i + j_) < (r_.length : Int) then (if j_ < (d.length : Int) then (if (0 : Int) ≤ j_ ∧ j_ < (d.length : Int) then (wide_giveBack.j2 k h r_ d i carry j_ ((((((rd r_ (w64 (i + j_))) % 18446744073709551616) + carry) % 18446744073709551616) + ((rd d j_) % 18446744073709551616)) % 18446744073709551616)) else none) else (wide_giveBack.j2 k h r_ d i carry j_ ((((rd r_ (w64 (i + j_))) % 18446744073709551616) + carry) % 18446744073709551616))) else none) else (some (r_))
noncomputable def wide_giveBack.hs : Nat → wide_giveBack.Hs
 | 0 => ⟨fun _ _ _ _ _ => none⟩
 | k + 1 => ⟨fun x0 x1 x2 x3 x4 => wide_giveBack.b0 k (wide_giveBack.hs k) x0 x1 x2 x3 x4⟩
noncomputable def wide_giveBack.f (k : Nat) (r_ : List Int) (d : List Int) (i : Int) : Option (List Int) := (fun h : wide_giveBack.Hs => h.l0 r_ d i 0 0) (wide_giveBack.hs k)
structure wide_giveBack.LE (h h' : wide_giveBack.Hs) : Prop where
 l0 : ∀ y0 y1 y2 y3 y4, LeO (h.l0 y0 y1 y2 y3 y4) (h'.l0 y0 y1 y2 y3 y4)
theorem wide_giveBack.j2_mono {k : Nat} {h h' : wide_giveBack.Hs} (hl : wide_giveBack.LE h h') : ∀ y0 y1 y2 y3 y4 y5, LeO (wide_giveBack.j2 k h y0 y1 y2 y3 y4 y5) (wide_giveBack.j2 (k + 1) h' y0 y1 y2 y3 y4 y5) := fun _ _ _ _ _ _ => (LeO.ite (hl.l0 _ _ _ _ _) (LeO.refl _))
theorem wide_giveBack.b0_mono {k : Nat} {h h' : wide_giveBack.Hs} (hl : wide_giveBack.LE h h') : ∀ y0 y1 y2 y3 y4, LeO (wide_giveBack.b0 k h y0 y1 y2 y3 y4) (wide_giveBack.b0 (k + 1) h' y0 y1 y2 y3 y4) := fun _ _ _ _ _ => (LeO.ite (LeO.ite (LeO.ite (LeO.ite (wide_giveBack.j2_mono (k := k) hl _ _ _ _ _ _) (LeO.refl _)) (wide_giveBack.j2_mono (k := k) hl _ _ _ _ _ _)) (LeO.refl _)) (LeO.refl _))
theorem wide_giveBack.hs_mono : ∀ k, wide_giveBack.LE (wide_giveBack.hs k) (wide_giveBack.hs (k + 1))
 | 0 => ⟨fun _ _ _ _ _ => LeO.none _⟩
 | k + 1 => ⟨wide_giveBack.b0_mono (k := k) (wide_giveBack.hs_mono k)⟩
theorem wide_giveBack.mono : ∀ k y0 y1 y2, LeO (wide_giveBack.f k y0 y1 y2) (wide_giveBack.f (k + 1) y0 y1 y2) := fun k _ _ _ => have hl := wide_giveBack.hs_mono k; by unfold wide_giveBack.f; exact (hl.l0 _ _ _ _ _)
noncomputable def wide_giveBack.Kl0 : List Item := .code (lopB (blkB (seqR (seqR wide_giveBack.C)))) :: .inLoop (lopB (blkB (seqR (seqR wide_giveBack.C)))) :: .inBlock 0 :: []
noncomputable def wide_giveBack.Kj2 : List Item := .code (seqR (seqR (blkB (seqL (seqR (lopB (blkB (seqR (seqR wide_giveBack.C))))))))) :: .inBlock 1 :: .code (seqR (seqR (lopB (blkB (seqR (seqR wide_giveBack.C)))))) :: .inLoop (lopB (blkB (seqR (seqR wide_giveBack.C)))) :: .inBlock 0 :: []
structure wide_giveBack.OK (h : wide_giveBack.Hs) : Prop where
 l0 : ∀ {H0 H : Hp} {L : Items} {r : (List Int)} {jk_ : Nat → Value} {r_ : List Int} {d : List Int} {i : Int} {carry : Int} {j_ : Int} {vr_ : Value} {v_d : Value} {i_r_ : Item'} (_ : H0.le H) (_he : h.l0 r_ d i carry j_ = some r) (_h_r_ : Sl kU32 H 167 i_r_ vr_ r_) (_h_d : Src kU32 H L v_d d), Wp Tryz.prog 158 44 wide_giveBack.Kl0 (upd (upd (upd (upd (upd jk_ 0 (vr_)) 1 (v_d)) 2 (.int .i64 i)) 6 (.int .u64 carry)) 7 (.int .i64 j_)) H (i_r_ :: L) (wide_giveBack.R vr_ H0 L r)
theorem wide_giveBack.j2_ok {k : Nat} {h : wide_giveBack.Hs} (hh : wide_giveBack.OK h) {H0 H : Hp} {L : Items} {r : (List Int)} {jk_ : Nat → Value} {r_ : List Int} {d : List Int} {i : Int} {carry : Int} {j_ : Int} {s : Int} {vr_ : Value} {v_d : Value} {i_r_ : Item'} (hle : H0.le H) (he : wide_giveBack.j2 k h r_ d i carry j_ s = some r) (h_r_ : Sl kU32 H 167 i_r_ vr_ r_) (h_d : Src kU32 H L v_d d) : Wp Tryz.prog 158 44 wide_giveBack.Kj2 (upd (upd (upd (upd (upd (upd jk_ 0 (vr_)) 1 (v_d)) 2 (.int .i64 i)) 6 (.int .u64 carry)) 7 (.int .i64 j_)) 8 (.int .u64 s)) H (i_r_ :: L) (wide_giveBack.R vr_ H0 L r) := by
 unfold wide_giveBack.j2 at he
 unfold wide_giveBack.Kj2
 refine wR rfl <| wM vr_ rfl rfl <| wM (.int .i64 i) rfl rfl <| wM (.int .i64 j_) rfl rfl <| w_d rfl (d_add (c := w64 (i + j_)) rfl rfl rfl) <| wM (.int .u64 s) rfl rfl <| w_d rfl (d_conv (c := (s) % 4294967296) Tryz.underlying113 Tryz.underlying167 rfl rfl) ?_
 obtain ⟨c5, he⟩ := rq he
 refine w_d rfl (d_indexS (sz := 1) Tryz.underlying22 sz167 rfl h_r_.shp rfl c5) <| w_a0 rfl (o_storeEl (kd := kU32) (v := .int .u32 ((s) % 4294967296)) (F := fun z_ => z_ :: L) sz167 rfl rfl rfl rfl h_r_ c5 (fun _ => .here)) ?_
 rintro _ _ _ ⟨i6, rfl, rfl, rfl, h7⟩
 refine w_done <| w_region rfl <| wM (.int .u64 s) rfl rfl <| w_d rfl (d_shr (c := s / 4294967296) rfl rfl (by decide) rfl) <| wA (.int .u64 (s / 4294967296)) rfl rfl <| w_done <| w_inBlock <| w_region rfl <| wM (.int .i64 j_) rfl rfl <| w_d rfl (d_add (c := w64 (j_ + 1)) rfl rfl rfl) <| wA (.int .i64 (w64 (j_ + 1))) rfl rfl <| w_done ?_
 refine w_inLoop <| w_sl 0 (vr_) rfl <| w_sl 1 (v_d) rfl <| w_sl 2 (.int .i64 i) rfl <| w_sl 6 (.int .u64 (s / 4294967296)) rfl <| w_sl 7 (.int .i64 (w64 (j_ + 1))) rfl <| hh.l0 hle he h7 h_d
theorem wide_giveBack.b0_ok {k : Nat} {h : wide_giveBack.Hs} (hh : wide_giveBack.OK h) {H0 H : Hp} {L : Items} {r : (List Int)} {jk_ : Nat → Value} {r_ : List Int} {d : List Int} {i : Int} {carry : Int} {j_ : Int} {vr_ : Value} {v_d : Value} {i_r_ : Item'} (hle : H0.le H) (he : wide_giveBack.b0 k h r_ d i carry j_ = some r) (h_r_ : Sl kU32 H 167 i_r_ vr_ r_) (h_d : Src kU32 H L v_d d) : Wp Tryz.prog 158 44 wide_giveBack.Kl0 (upd (upd (upd (upd (upd jk_ 0 (vr_)) 1 (v_d)) 2 (.int .i64 i)) 6 (.int .u64 carry)) 7 (.int .i64 j_)) H (i_r_ :: L) (wide_giveBack.R vr_ H0 L r) := by
 unfold wide_giveBack.b0 at he
 unfold wide_giveBack.Kl0
 refine w_seq <| wR rfl <| wM (.int .i64 j_) rfl rfl <| wM v_d rfl rfl <| w_d rfl (d_len Tryz.underlying22 rfl h_d.th) <| w_d rfl (d_leq rfl rfl) <| w_done ?_
 rcases its he with ⟨c1, he⟩ | ⟨c1, he⟩
 ·
  refine w_then rfl (dt c1) <| w_skip <| w_seq <| w_block <| wR rfl <| wM vr_ rfl rfl <| wM (.int .i64 i) rfl rfl <| wM (.int .i64 j_) rfl rfl <| w_d rfl (d_add (c := w64 (i + j_)) rfl rfl rfl) ?_
  obtain ⟨c2, he⟩ := rq he
  refine w_d rfl (d_indexS (sz := 1) Tryz.underlying22 sz167 rfl h_r_.shp rfl c2) <| w_d rfl (d_ldint ty167 rfl (h_r_.src .here) c2) <| w_d rfl (d_conv (c := (rd r_ (w64 (i + j_))) % 18446744073709551616) Tryz.underlying167 Tryz.underlying113 rfl rfl) <| wM (.int .u64 carry) rfl rfl <| w_d rfl (d_add (c := (((rd r_ (w64 (i + j_))) % 18446744073709551616) + carry) % 18446744073709551616) rfl rfl rfl) <| wA (.int .u64 ((((rd r_ (w64 (i + j_))) % 18446744073709551616) + carry) % 18446744073709551616)) rfl rfl <| wE <| wR rfl <| wM (.int .i64 j_) rfl rfl <| wM v_d rfl rfl ?_
  refine w_d rfl (d_len Tryz.underlying22 rfl h_d.th) <| w_d rfl (d_lss rfl rfl) <| w_done ?_
  rcases its he with ⟨c3, he⟩ | ⟨c3, he⟩
  ·
   refine w_then rfl (dt c3) <| w_region rfl <| wM (.int .u64 ((((rd r_ (w64 (i + j_))) % 18446744073709551616) + carry) % 18446744073709551616)) rfl rfl <| wM v_d rfl rfl <| wM (.int .i64 j_) rfl rfl ?_
   obtain ⟨c4, he⟩ := rq he
   refine w_d rfl (d_index (sz := 1) Tryz.underlying22 sz167 rfl h_d.th rfl c4) <| w_d rfl (d_ldint ty167 rfl h_d.th c4) <| w_d rfl (d_conv (c := (rd d j_) % 18446744073709551616) Tryz.underlying167 Tryz.underlying113 rfl rfl) <| w_d rfl (d_add (c := (((((rd r_ (w64 (i + j_))) % 18446744073709551616) + carry) % 18446744073709551616) + ((rd d j_) % 18446744073709551616)) % 18446744073709551616) rfl rfl rfl) <| wA (.int .u64 ((((((rd r_ (w64 (i + j_))) % 18446744073709551616) + carry) % 18446744073709551616) + ((rd d j_) % 18446744073709551616)) % 18446744073709551616)) rfl rfl <| w_done <| w_sl 0 (vr_) rfl <| w_sl 1 (v_d) rfl <| w_sl 2 (.int .i64 i) rfl <| w_sl 6 (.int .u64 carry) rfl <| w_sl 7 (.int .i64 j_) rfl <| w_sl 8 (.int .u64 ((((((rd r_ (w64 (i + j_))) % 18446744073709551616) + carry) % 18446744073709551616) + ((rd d j_) % 18446744073709551616)) % 18446744073709551616)) rfl <| wide_giveBack.j2_ok (k := k) hh hle he h_r_ h_d
  ·
   refine w_else rfl (df c3) <| w_skip <| w_sl 0 (vr_) rfl <| w_sl 1 (v_d) rfl <| w_sl 2 (.int .i64 i) rfl <| w_sl 6 (.int .u64 carry) rfl <| w_sl 7 (.int .i64 j_) rfl <| w_sl 8 (.int .u64 ((((rd r_ (w64 (i + j_))) % 18446744073709551616) + carry) % 18446744073709551616)) rfl <| wide_giveBack.j2_ok (k := k) hh hle he h_r_ h_d
 ·
  refine w_else rfl (df c1) <| w_exit rfl ?_
  obtain rfl := sj he
  refine w_finish fn_158 rs_158 .nil <| ⟨⟨[], _, rfl, h_r_⟩, hle, rfl⟩
theorem wide_giveBack.ok : ∀ k, wide_giveBack.OK (wide_giveBack.hs k)
 | 0 => ⟨(by intros; exact nomatch (show none = some _ from by assumption))⟩
 | k + 1 => ⟨wide_giveBack.b0_ok (k := k) (wide_giveBack.ok k)⟩
theorem wide_giveBack.calls (k : Nat) {H : Hp} {L : Items} {r_ : List Int} {d : List Int} {i : Int} {vr_ : Value} {it_ : Item'} {v0_d : Value} {r : (List Int)} (he : wide_giveBack.f k r_ d i = some r) (hr_ : Sl kU32 H 167 it_ vr_ r_) (h0_d : Src kU32 H L v0_d d) : Ct Tryz.prog 158 ⟨[vr_, v0_d, .int .i64 i]⟩ H (it_ :: L) (fun v H' L' => ∃ it', L' = it' :: L ∧ H.le H' ∧ Sl kU32 H' 167 it' vr_ r ∧ v = .tuple ⟨[]⟩) := by
 refine ct_mut (Q := fun v => v = .tuple ⟨[]⟩) ?_
 have hle : H.le H := .refl _
 have hh := wide_giveBack.ok k
 unfold wide_giveBack.f at he
 refine ct_enter (args := [vr_, v0_d, .int .i64 i]) fn_158 rfl nt_158 rfl <| wR rfl <| wA (.int .u64 0) rfl rfl <| wQ rfl <| wA (.int .i64 0) rfl rfl <| w_done <| w_block <| w_loop <| w_sl 0 (vr_) rfl ?_
 refine w_sl 1 (v0_d) rfl <| w_sl 2 (.int .i64 i) rfl <| w_sl 6 (.int .u64 0) rfl <| w_sl 7 (.int .i64 0) rfl <| hh.l0 hle he hr_ h0_d
noncomputable def slices_Clone_uint32_uint32.C : Code := (Tryz.f119.body).getD .skip
abbrev slices_Clone_uint32_uint32.out (r : (List Int)) (H : Hp) (v : Value) : Prop := Ro kU32 H v r
noncomputable def slices_Clone_uint32_uint32.f (k : Nat) (s : List Int) : Option (List Int) := if 0 + s.length ≤ 35184372088704 then (some (s)) else none
theorem slices_Clone_uint32_uint32.mono : ∀ k y0, LeO (slices_Clone_uint32_uint32.f k y0) (slices_Clone_uint32_uint32.f (k + 1) y0) := fun k _ => by unfold slices_Clone_uint32_uint32.f; exact (LeO.ite (LeO.refl _) (LeO.refl _))
theorem slices_Clone_uint32_uint32.calls (k : Nat) {H : Hp} {L : Items} {s : List Int} {v0_s : Value} {r : (List Int)} (he : slices_Clone_uint32_uint32.f k s = some r) (h0_s : Ro kU32 H v0_s s) : Ct Tryz.prog 119 ⟨[v0_s]⟩ H L (fun v H' L' => ∃ it, L' = it :: L ∧ H.le H' ∧ Sl kU32 H' 167 it v r) := by
 refine ct_own ?_
 have hle : H.le H := .refl _
 unfold slices_Clone_uint32_uint32.f at he
 obtain ⟨A_, n_, rfl, hc_, h1_⟩ := h0_s
 cases A_ with
 | none =>
  have e_ : s = [] := h1_.elim id fun h => (by obtain ⟨_, _, h, _⟩ := h; cases h)
  subst e_
  obtain ⟨_, he⟩ := rq he
  refine ct_enter (args := [.slice none 0 n_]) fn_119 rfl nt_119 rfl <| wR rfl <| wA (.slice none 0 0) rfl rfl <| wE <| wR rfl <| wM (.slice none 0 n_) rfl rfl <| w_d rfl (d_eqnil_n Tryz.underlying22 rfl) <| w_done <| w_then rfl rfl ?_
  refine wR rfl <| wA (.slice none 0 0) rfl rfl <| w_done <| w_none ?_
  obtain rfl := sj he
  refine w_return fn_119 rs_119 (.tmp (v := .slice none 0 0) rfl .nil) <| ⟨⟨[], _, rfl, (sl_nil _ _ _)⟩, hle⟩
 | some a_ =>
  have h0_s : Ro kU32 H (.slice (some a_) s.length n_) s := ⟨some a_, n_, rfl, hc_, h1_⟩
  refine ct_enter (args := [.slice (some a_) s.length n_]) fn_119 rfl nt_119 rfl <| wR rfl <| wA (.slice none 0 0) rfl rfl <| wE <| wR rfl <| wM (.slice (some a_) s.length n_) rfl rfl <| w_d rfl (d_eqnil_sl Tryz.underlying22 rfl rfl) <| w_done <| w_else rfl rfl ?_
  refine w_skip <| wR rfl <| w_a rfl (o_buildSlice' (kd := kU32) (css := []) (xs := []) (parts := []) Tryz.underlying22 ti167 rfl rfl trivial rfl (by decide)) ?_
  rintro v1 _ _ ⟨i2, rfl, rfl, h3⟩
  refine wM (.slice (some a_) s.length n_) rfl rfl ?_
  obtain ⟨c4, he⟩ := rq he
  refine w_a rfl (o_append' (kd := kU32) (F := fun z_ => z_ :: L) Tryz.underlying22 Tryz.underlying22 ti167 rfl (by first | omega | (simp only [List.nil_append, List.length_cons, List.length_nil]; omega)) rfl rfl h3 h0_s.src (fun _ => .here)) ?_
  rintro v5 _ _ ⟨i6, rfl, rfl, h7⟩
  refine wA v5 rfl rfl <| w_done ?_
  obtain rfl := sj he
  refine w_return fn_119 rs_119 (.tmp (v := v5) rfl .nil) <| ⟨⟨[], _, rfl, h7⟩, hle⟩
theorem slices_Clone_uint32_uint32.callsR (k : Nat) {H : Hp} {L : Items} {s : List Int} {v0_s : Value} {r : (List Int)} (he : slices_Clone_uint32_uint32.f k s = some r) (h0_s : Ro kU32 H v0_s s) : Ct Tryz.prog 119 ⟨[v0_s]⟩ H L (cR H L (slices_Clone_uint32_uint32.out r)) := ct_ro (slices_Clone_uint32_uint32.calls k he h0_s)
noncomputable def wide_down.C : Code := (Tryz.f118.body).getD .skip
abbrev wide_down.out (r : (List Int)) (H : Hp) (v : Value) : Prop := Ro kU32 H v r
abbrev wide_down.R (H0 : Hp) (L : Items) (r : (List Int)) := fR H0 L (wide_down.out r)
structure wide_down.Hs where
 l0 : Int → (List Int) → Int → Int → Option (List Int)
noncomputable def wide_down.j2 (k : Nat) (h : wide_down.Hs)  (n : Int) (out : List Int) (i : Int) (v_ : Int) (t11 : Int) (t12 : Int) : Option (List Int) := if 0 ≤ n then (if (0 : Int) ≤ i ∧ i < (out.length : Int) then (h.l0 n (out.set (i : Int).toNat ((v_ / 2 ^ shn .u64 n) % 4294967296)) t11 (w64 (t12 + 1))) else none) else none
noncomputable def wide_down.b0 (k : Nat) (h : wide_down.Hs)  (n : Int) (out : List Int) (t11 : Int) (t12 : Int) : Option (List Int) := if t12 < t11 then (if (0 : Int) ≤ t12 ∧ t12 < (out.length : Int) then (if (w64 (t12 + 1)) < (out.length : Int) then (if (0 : Int) ≤ w64 (t12 + 1) ∧ w64 (t12 + 1) < (out.length : Int) then (wide_down.j2 k h n out t12 (ior .u64 ((rd out t12) % 18446744073709551616) ((((rd out (w64 (t12 + 1))) % 18446744073709551616) * 4294967296) % 18446744073709551616)) t11 t12) else none) else (wide_down.j2 k h n out t12 ((rd out t12) % 18446744073709551616) t11 t12)) else none) else ((wide_trim.f k out).bind fun y17 => some (y17))
noncomputable def wide_down.hs : Nat → wide_down.Hs
 | 0 => ⟨fun _ _ _ _ => none⟩
 | k + 1 => ⟨fun x0 x1 x2 x3 => wide_down.b0 k (wide_down.hs k) x0 x1 x2 x3⟩
noncomputable def wide_down.f (k : Nat) (w : List Int) (n : Int) : Option (List Int) := (fun h : wide_down.Hs => (slices_Clone_uint32_uint32.f k w).bind fun y1 => h.l0 n y1 (y1.length : Int) 0) (wide_down.hs k)
structure wide_down.LE (h h' : wide_down.Hs) : Prop where
 l0 : ∀ y0 y1 y2 y3, LeO (h.l0 y0 y1 y2 y3) (h'.l0 y0 y1 y2 y3)
theorem wide_down.j2_mono {k : Nat} {h h' : wide_down.Hs} (hl : wide_down.LE h h') : ∀ y0 y1 y2 y3 y4 y5, LeO (wide_down.j2 k h y0 y1 y2 y3 y4 y5) (wide_down.j2 (k + 1) h' y0 y1 y2 y3 y4 y5) := fun _ _ _ _ _ _ => (LeO.ite (LeO.ite (hl.l0 _ _ _ _) (LeO.refl _)) (LeO.refl _))
theorem wide_down.b0_mono {k : Nat} {h h' : wide_down.Hs} (hl : wide_down.LE h h') : ∀ y0 y1 y2 y3, LeO (wide_down.b0 k h y0 y1 y2 y3) (wide_down.b0 (k + 1) h' y0 y1 y2 y3) := fun _ _ _ _ => (LeO.ite (LeO.ite (LeO.ite (LeO.ite (wide_down.j2_mono (k := k) hl _ _ _ _ _ _) (LeO.refl _)) (wide_down.j2_mono (k := k) hl _ _ _ _ _ _)) (LeO.refl _)) (LeO.bind (wide_trim.mono k _) fun _ => LeO.refl _))
theorem wide_down.hs_mono : ∀ k, wide_down.LE (wide_down.hs k) (wide_down.hs (k + 1))
 | 0 => ⟨fun _ _ _ _ => LeO.none _⟩
 | k + 1 => ⟨wide_down.b0_mono (k := k) (wide_down.hs_mono k)⟩
theorem wide_down.mono : ∀ k y0 y1, LeO (wide_down.f k y0 y1) (wide_down.f (k + 1) y0 y1) := fun k _ _ => have hl := wide_down.hs_mono k; by unfold wide_down.f; exact (LeO.bind (slices_Clone_uint32_uint32.mono k _) fun _ => hl.l0 _ _ _ _)
noncomputable def wide_down.Kl0 : List Item := .code (lopB (blkB (seqR (seqL (seqR (seqR wide_down.C)))))) :: .inLoop (lopB (blkB (seqR (seqL (seqR (seqR wide_down.C)))))) :: .inBlock 0 :: .code (seqR (seqR (seqR wide_down.C))) :: []
noncomputable def wide_down.Kj2 : List Item := .code (seqR (seqR (seqR (blkB (seqL (seqR (seqR (lopB (blkB (seqR (seqL (seqR (seqR wide_down.C))))))))))))) :: .inBlock 1 :: .code (seqR (seqR (seqR (lopB (blkB (seqR (seqL (seqR (seqR wide_down.C))))))))) :: .inLoop (lopB (blkB (seqR (seqL (seqR (seqR wide_down.C)))))) :: .inBlock 0 :: .code (seqR (seqR (seqR wide_down.C))) :: []
structure wide_down.OK (h : wide_down.Hs) : Prop where
 l0 : ∀ {H0 H : Hp} {L : Items} {r : (List Int)} {jk_ : Nat → Value} {n : Int} {out : List Int} {t11 : Int} {t12 : Int} {v_out : Value} {i_out : Item'} (_ : H0.le H) (_he : h.l0 n out t11 t12 = some r) (_h_out : Sl kU32 H 167 i_out v_out out), Wp Tryz.prog 118 44 wide_down.Kl0 (upd (upd (upd (upd (upd jk_ 1 (.int .i64 n)) 4 (.slice none 0 0)) 5 (v_out)) 11 (.int .i64 t11)) 12 (.int .i64 t12)) H (i_out :: L) (wide_down.R H0 L r)
theorem wide_down.j2_ok {k : Nat} {h : wide_down.Hs} (hh : wide_down.OK h) {H0 H : Hp} {L : Items} {r : (List Int)} {jk_ : Nat → Value} {n : Int} {out : List Int} {i : Int} {v_ : Int} {t11 : Int} {t12 : Int} {v_out : Value} {i_out : Item'} (hle : H0.le H) (he : wide_down.j2 k h n out i v_ t11 t12 = some r) (h_out : Sl kU32 H 167 i_out v_out out) : Wp Tryz.prog 118 44 wide_down.Kj2 (upd (upd (upd (upd (upd (upd (upd jk_ 1 (.int .i64 n)) 4 (.slice none 0 0)) 5 (v_out)) 6 (.int .i64 i)) 7 (.int .u64 v_)) 11 (.int .i64 t11)) 12 (.int .i64 t12)) H (i_out :: L) (wide_down.R H0 L r) := by
 unfold wide_down.j2 at he
 unfold wide_down.Kj2
 refine w_region rfl <| wM v_out rfl rfl <| wM (.int .i64 i) rfl rfl <| wM (.int .u64 v_) rfl rfl <| wM (.int .i64 n) rfl rfl ?_
 obtain ⟨c23, he⟩ := rq he
 refine w_d rfl (d_shr (c := v_ / 2 ^ shn .u64 n) rfl rfl c23 rfl) <| w_d rfl (d_conv (c := (v_ / 2 ^ shn .u64 n) % 4294967296) Tryz.underlying113 Tryz.underlying167 rfl rfl) ?_
 obtain ⟨c24, he⟩ := rq he
 refine w_d rfl (d_indexS (sz := 1) Tryz.underlying22 sz167 rfl h_out.shp rfl c24) <| w_a0 rfl (o_storeEl (kd := kU32) (v := .int .u32 ((v_ / 2 ^ shn .u64 n) % 4294967296)) (F := fun z_ => z_ :: L) sz167 rfl rfl rfl rfl h_out c24 (fun _ => .here)) ?_
 rintro _ _ _ ⟨i25, rfl, rfl, rfl, h26⟩
 refine w_done <| w_inBlock <| w_region rfl <| w_d rfl (d_add (c := w64 (t12 + 1)) rfl rfl rfl) <| wM (.int .i64 (w64 (t12 + 1))) rfl rfl <| w_done <| w_inLoop <| w_sl 1 (.int .i64 n) rfl <| w_sl 4 (.slice none 0 0) rfl <| w_sl 5 (v_out) rfl <| w_sl 11 (.int .i64 t11) rfl <| w_sl 12 (.int .i64 (w64 (t12 + 1))) rfl <| hh.l0 hle he h26
theorem wide_down.b0_ok {k : Nat} {h : wide_down.Hs} (hh : wide_down.OK h) {H0 H : Hp} {L : Items} {r : (List Int)} {jk_ : Nat → Value} {n : Int} {out : List Int} {t11 : Int} {t12 : Int} {v_out : Value} {i_out : Item'} (hle : H0.le H) (he : wide_down.b0 k h n out t11 t12 = some r) (h_out : Sl kU32 H 167 i_out v_out out) : Wp Tryz.prog 118 44 wide_down.Kl0 (upd (upd (upd (upd (upd jk_ 1 (.int .i64 n)) 4 (.slice none 0 0)) 5 (v_out)) 11 (.int .i64 t11)) 12 (.int .i64 t12)) H (i_out :: L) (wide_down.R H0 L r) := by
 unfold wide_down.b0 at he
 unfold wide_down.Kl0
 refine wR rfl <| w_d rfl (d_lss rfl rfl) <| wE ?_
 rcases its he with ⟨c10, he⟩ | ⟨c10, he⟩
 ·
  refine w_then rfl (dt c10) <| w_skip <| w_seq <| w_block <| wR rfl <| wM (.int .i64 t12) rfl rfl <| wA (.int .i64 t12) rfl rfl <| wQ rfl <| wM v_out rfl rfl ?_
  refine wM (.int .i64 t12) rfl rfl ?_
  obtain ⟨c11, he⟩ := rq he
  refine w_d rfl (d_indexS (sz := 1) Tryz.underlying22 sz167 rfl h_out.shp rfl c11) <| w_d rfl (d_ldint ty167 rfl (h_out.src .here) c11) <| w_d rfl (d_conv (c := (rd out t12) % 18446744073709551616) Tryz.underlying167 Tryz.underlying113 rfl rfl) <| wA (.int .u64 ((rd out t12) % 18446744073709551616)) rfl rfl <| wE <| wR rfl <| wM (.int .i64 t12) rfl rfl <| w_d rfl (d_add (c := w64 (t12 + 1)) rfl rfl rfl) <| wM v_out rfl rfl <| w_d rfl (d_lenS Tryz.underlying22 rfl h_out.shp) ?_
  refine w_d rfl (d_lss rfl rfl) <| w_done ?_
  rcases its he with ⟨c12, he⟩ | ⟨c12, he⟩
  ·
   refine w_then rfl (dt c12) <| w_region rfl <| wM (.int .u64 ((rd out t12) % 18446744073709551616)) rfl rfl <| wM v_out rfl rfl <| wM (.int .i64 t12) rfl rfl <| w_d rfl (d_add (c := w64 (t12 + 1)) rfl rfl rfl) ?_
   obtain ⟨c13, he⟩ := rq he
   refine w_d rfl (d_indexS (sz := 1) Tryz.underlying22 sz167 rfl h_out.shp rfl c13) <| w_d rfl (d_ldint ty167 rfl (h_out.src .here) c13) <| w_d rfl (d_conv (c := (rd out (w64 (t12 + 1))) % 18446744073709551616) Tryz.underlying167 Tryz.underlying113 rfl rfl) <| w_d rfl (d_shl (c := (((rd out (w64 (t12 + 1))) % 18446744073709551616) * 4294967296) % 18446744073709551616) rfl rfl (by decide) rfl) <| w_d rfl (d_bor rfl rfl) <| wA (.int .u64 (ior .u64 ((rd out t12) % 18446744073709551616) ((((rd out (w64 (t12 + 1))) % 18446744073709551616) * 4294967296) % 18446744073709551616))) rfl rfl <| w_done <| w_sl 1 (.int .i64 n) rfl <| w_sl 4 (.slice none 0 0) rfl <| w_sl 5 (v_out) rfl <| w_sl 6 (.int .i64 t12) rfl <| w_sl 7 (.int .u64 (ior .u64 ((rd out t12) % 18446744073709551616) ((((rd out (w64 (t12 + 1))) % 18446744073709551616) * 4294967296) % 18446744073709551616))) rfl ?_
   refine w_sl 11 (.int .i64 t11) rfl <| w_sl 12 (.int .i64 t12) rfl <| wide_down.j2_ok (k := k) hh hle he h_out
  ·
   refine w_else rfl (df c12) <| w_skip <| w_sl 1 (.int .i64 n) rfl <| w_sl 4 (.slice none 0 0) rfl <| w_sl 5 (v_out) rfl <| w_sl 6 (.int .i64 t12) rfl <| w_sl 7 (.int .u64 ((rd out t12) % 18446744073709551616)) rfl <| w_sl 11 (.int .i64 t11) rfl <| w_sl 12 (.int .i64 t12) rfl <| wide_down.j2_ok (k := k) hh hle he h_out
 ·
  refine w_else rfl (df c10) <| w_exit rfl <| wR rfl <| wM v_out rfl rfl <| w_freeze h_out .here ?_
  intro H14 e15 h16
  obtain ⟨y17, hy18, he⟩ := bs he
  refine w_a rfl (o_call co113 (vs := [v_out]) rfl (wide_trim.calls k hy18 h16)) ?_
  rintro v21 H19 _ ⟨rfl, e20, h22⟩
  refine wA v21 rfl rfl <| w_done ?_
  obtain rfl := sj he
  refine w_return fn_118 rs_118 (.tmp (v := v21) rfl .nil) <| ⟨⟨[_], rfl⟩, hle.trans (e15.trans e20), h22⟩
theorem wide_down.ok : ∀ k, wide_down.OK (wide_down.hs k)
 | 0 => ⟨(by intros; exact nomatch (show none = some _ from by assumption))⟩
 | k + 1 => ⟨wide_down.b0_ok (k := k) (wide_down.ok k)⟩
theorem wide_down.calls (k : Nat) {H : Hp} {L : Items} {w : List Int} {n : Int} {v0_w : Value} {r : (List Int)} (he : wide_down.f k w n = some r) (h0_w : Ro kU32 H v0_w w) : Ct Tryz.prog 118 ⟨[v0_w, .int .i64 n]⟩ H L (cR H L (wide_down.out r)) := by
 refine ct_out (O := wide_down.out r) ?_
 have hle : H.le H := .refl _
 have hh := wide_down.ok k
 unfold wide_down.f at he
 refine ct_enter (args := [v0_w, .int .i64 n]) fn_118 rfl nt_118 rfl <| wR rfl <| wA (.slice none 0 0) rfl rfl <| wQ rfl <| wM v0_w rfl rfl ?_
 obtain ⟨y1, hy2, he⟩ := bs he
 refine w_a rfl (o_call co119 (vs := [v0_w]) rfl (slices_Clone_uint32_uint32.calls k hy2 h0_w)) ?_
 rintro v7 H3 _ ⟨i8, rfl, e4, h9⟩
 refine wA v7 rfl rfl <| wE <| wR rfl <| wM v7 rfl rfl <| w_d rfl (d_lenS Tryz.underlying22 rfl h9.shp) <| wM (.int .i64 0) rfl rfl <| w_done <| w_block <| w_loop <| w_sl 1 (.int .i64 n) rfl ?_
 refine w_sl 4 (.slice none 0 0) rfl <| w_sl 5 (v7) rfl <| w_sl 11 (.int .i64 (y1.length : Int)) rfl <| w_sl 12 (.int .i64 0) rfl <| hh.l0 (hle.trans e4) he h9
noncomputable def wide_long.C : Code := (Tryz.f142.body).getD .skip
def wide_long.out (r : (List Int) × (List Int)) (H : Hp) (v : Value) : Prop := ∃ v0, ∃ v1, v = .tuple ⟨[v0, v1]⟩ ∧ Ro kU32 H v0 r.1 ∧ Ro kU32 H v1 r.2
theorem wide_long.out_mono (r : (List Int) × (List Int)) {H H' : Hp} {v : Value} (hle : H.le H') (h : wide_long.out r H v) : wide_long.out r H' v := by
 obtain ⟨v0, v1, rfl, h0, h1⟩ := h; exact ⟨v0, v1, rfl, h0.mono hle, h1.mono hle⟩
abbrev wide_long.R (H0 : Hp) (L : Items) (r : (List Int) × (List Int)) := fR H0 L (wide_long.out r)
structure wide_long.Hs where
 l0 : Int → (List Int) → (List Int) → (List Int) → Int → Option ((List Int) × (List Int))
noncomputable def wide_long.j2 (k : Nat) (h : wide_long.Hs)  (n : Int) (d : List Int) (r_ : List Int) (q : List Int) (i : Int) (g : Int) : Option ((List Int) × (List Int)) := if (0 : Int) ≤ i ∧ i < (q.length : Int) then (h.l0 n d r_ (q.set (i : Int).toNat ((g) % 4294967296)) (w64 (i - 1))) else none
noncomputable def wide_long.b0 (k : Nat) (h : wide_long.Hs)  (n : Int) (d : List Int) (r_ : List Int) (q : List Int) (i : Int) : Option ((List Int) × (List Int)) := if 0 ≤ i then ((wide_guess.f k r_ d i).bind fun y63 => (wide_takeOff.f k r_ d i y63).bind fun y67 => if y67.1 = true then ((wide_giveBack.f k y67.2 d i).bind fun y74 => wide_long.j2 k h n d y74 q i ((y63 - 1) % 18446744073709551616)) else (wide_long.j2 k h n d y67.2 q i y63)) else ((wide_trim.f k q).bind fun y83 => (wide_down.f k r_ n).bind fun y92 => some (y83, y92))
noncomputable def wide_long.hs : Nat → wide_long.Hs
 | 0 => ⟨fun _ _ _ _ _ => none⟩
 | k + 1 => ⟨fun x0 x1 x2 x3 x4 => wide_long.b0 k (wide_long.hs k) x0 x1 x2 x3 x4⟩
noncomputable def wide_long.f (k : Nat) (a : List Int) (b : List Int) : Option ((List Int) × (List Int)) := (fun h : wide_long.Hs => (wide_less.f k a b).bind fun y1 => if y1 < 0 then (some ([], a)) else (if (b.length : Int) = 1 then (if (0 : Int) ≤ 0 ∧ 0 < (b.length : Int) then ((wide_short.f k a (rd b 0)).bind fun y8 => (wide_trim.f k [y8.2]).bind fun y20 => some (y8.1, y20)) else none) else (if (0 : Int) ≤ w64 ((b.length : Int) - 1) ∧ w64 ((b.length : Int) - 1) < (b.length : Int) then ((bits_LeadingZeros32.f k (rd b (w64 ((b.length : Int) - 1)))).bind fun y27 => (wide_up.f k b y27).bind fun y31 => (wide_trim.f k y31).bind fun y43 => (wide_up.f k a y27).bind fun y49 => if 0 ≤ w64 ((y49.length : Int) - (y43.length : Int)) ∧ w64 ((y49.length : Int) - (y43.length : Int)) ≤ 70368744177664 then (h.l0 y27 y43 y49 (List.replicate (w64 ((y49.length : Int) - (y43.length : Int)) : Int).toNat (0 : Int)) (w64 (((List.replicate (w64 ((y49.length : Int) - (y43.length : Int)) : Int).toNat (0 : Int)).length : Int) - 1))) else none) else none))) (wide_long.hs k)
structure wide_long.LE (h h' : wide_long.Hs) : Prop where
 l0 : ∀ y0 y1 y2 y3 y4, LeO (h.l0 y0 y1 y2 y3 y4) (h'.l0 y0 y1 y2 y3 y4)
theorem wide_long.j2_mono {k : Nat} {h h' : wide_long.Hs} (hl : wide_long.LE h h') : ∀ y0 y1 y2 y3 y4 y5, LeO (wide_long.j2 k h y0 y1 y2 y3 y4 y5) (wide_long.j2 (k + 1) h' y0 y1 y2 y3 y4 y5) := fun _ _ _ _ _ _ => (LeO.ite (hl.l0 _ _ _ _ _) (LeO.refl _))
theorem wide_long.b0_mono {k : Nat} {h h' : wide_long.Hs} (hl : wide_long.LE h h') : ∀ y0 y1 y2 y3 y4, LeO (wide_long.b0 k h y0 y1 y2 y3 y4) (wide_long.b0 (k + 1) h' y0 y1 y2 y3 y4) := fun _ _ _ _ _ => (LeO.ite (LeO.bind (wide_guess.mono k _ _ _) fun _ => LeO.bind (wide_takeOff.mono k _ _ _ _) fun _ => LeO.ite (LeO.bind (wide_giveBack.mono k _ _ _) fun _ => wide_long.j2_mono (k := k) hl _ _ _ _ _ _) (wide_long.j2_mono (k := k) hl _ _ _ _ _ _)) (LeO.bind (wide_trim.mono k _) fun _ => LeO.bind (wide_down.mono k _ _) fun _ => LeO.refl _))
theorem wide_long.hs_mono : ∀ k, wide_long.LE (wide_long.hs k) (wide_long.hs (k + 1))
 | 0 => ⟨fun _ _ _ _ _ => LeO.none _⟩
 | k + 1 => ⟨wide_long.b0_mono (k := k) (wide_long.hs_mono k)⟩
theorem wide_long.mono : ∀ k y0 y1, LeO (wide_long.f k y0 y1) (wide_long.f (k + 1) y0 y1) := fun k _ _ => have hl := wide_long.hs_mono k; by unfold wide_long.f; exact (LeO.bind (wide_less.mono k _ _) fun _ => LeO.ite (LeO.refl _) (LeO.ite (LeO.ite (LeO.bind (wide_short.mono k _ _) fun _ => LeO.bind (wide_trim.mono k _) fun _ => LeO.refl _) (LeO.refl _)) (LeO.ite (LeO.bind (bits_LeadingZeros32.mono k _) fun _ => LeO.bind (wide_up.mono k _ _) fun _ => LeO.bind (wide_trim.mono k _) fun _ => LeO.bind (wide_up.mono k _ _) fun _ => LeO.ite (hl.l0 _ _ _ _ _) (LeO.refl _)) (LeO.refl _))))
noncomputable def wide_long.Kl0 : List Item := .code (lopB (blkB (seqR (seqL (seqR (seqR (seqR (seqR (seqR (seqR (seqR wide_long.C))))))))))) :: .inLoop (lopB (blkB (seqR (seqL (seqR (seqR (seqR (seqR (seqR (seqR (seqR wide_long.C))))))))))) :: .inBlock 0 :: .code (seqR (seqR (seqR (seqR (seqR (seqR (seqR (seqR wide_long.C)))))))) :: []
noncomputable def wide_long.Kj2 : List Item := .code (seqR (seqR (blkB (seqL (seqR (lopB (blkB (seqR (seqL (seqR (seqR (seqR (seqR (seqR (seqR (seqR wide_long.C)))))))))))))))) :: .inBlock 1 :: .code (seqR (seqR (lopB (blkB (seqR (seqL (seqR (seqR (seqR (seqR (seqR (seqR (seqR wide_long.C))))))))))))) :: .inLoop (lopB (blkB (seqR (seqL (seqR (seqR (seqR (seqR (seqR (seqR (seqR wide_long.C))))))))))) :: .inBlock 0 :: .code (seqR (seqR (seqR (seqR (seqR (seqR (seqR (seqR wide_long.C)))))))) :: []
structure wide_long.OK (h : wide_long.Hs) : Prop where
 l0 : ∀ {H0 H : Hp} {L : Items} {r : (List Int) × (List Int)} {jk_ : Nat → Value} {n : Int} {d : List Int} {r_ : List Int} {q : List Int} {i : Int} {v_d : Value} {v_r_ : Value} {v_q : Value} {i_r_ : Item'} {i_q : Item'} (_ : H0.le H) (_he : h.l0 n d r_ q i = some r) (_h_d : Ro kU32 H v_d d) (_h_r_ : Sl kU32 H 167 i_r_ v_r_ r_) (_h_q : Sl kU32 H 167 i_q v_q q), Wp Tryz.prog 142 86 wide_long.Kl0 (upd (upd (upd (upd (upd (upd (upd jk_ 4 (.slice none 0 0)) 5 (.slice none 0 0)) 8 (.int .i64 n)) 9 (v_d)) 10 (v_r_)) 11 (v_q)) 12 (.int .i64 i)) H (i_q :: i_r_ :: L) (wide_long.R H0 L r)
theorem wide_long.j2_ok {k : Nat} {h : wide_long.Hs} (hh : wide_long.OK h) {H0 H : Hp} {L : Items} {r : (List Int) × (List Int)} {jk_ : Nat → Value} {n : Int} {d : List Int} {r_ : List Int} {q : List Int} {i : Int} {g : Int} {v_d : Value} {v_r_ : Value} {v_q : Value} {i_r_ : Item'} {i_q : Item'} (hle : H0.le H) (he : wide_long.j2 k h n d r_ q i g = some r) (h_d : Ro kU32 H v_d d) (h_r_ : Sl kU32 H 167 i_r_ v_r_ r_) (h_q : Sl kU32 H 167 i_q v_q q) : Wp Tryz.prog 142 86 wide_long.Kj2 (upd (upd (upd (upd (upd (upd (upd (upd jk_ 4 (.slice none 0 0)) 5 (.slice none 0 0)) 8 (.int .i64 n)) 9 (v_d)) 10 (v_r_)) 11 (v_q)) 12 (.int .i64 i)) 13 (.int .u64 g)) H (i_q :: i_r_ :: L) (wide_long.R H0 L r) := by
 unfold wide_long.j2 at he
 unfold wide_long.Kj2
 refine w_region rfl <| wM v_q rfl rfl <| wM (.int .i64 i) rfl rfl <| wM (.int .u64 g) rfl rfl <| w_d rfl (d_conv (c := (g) % 4294967296) Tryz.underlying113 Tryz.underlying167 rfl rfl) ?_
 obtain ⟨c98, he⟩ := rq he
 refine w_d rfl (d_indexS (sz := 1) Tryz.underlying22 sz167 rfl h_q.shp rfl c98) <| w_a0 rfl (o_storeEl (kd := kU32) (v := .int .u32 ((g) % 4294967296)) (F := fun z_ => z_ :: i_r_ :: L) sz167 rfl rfl rfl rfl h_q c98 (fun _ => .here)) ?_
 rintro _ _ _ ⟨i99, rfl, rfl, rfl, h100⟩
 refine w_done <| w_inBlock <| w_region rfl <| wM (.int .i64 i) rfl rfl <| w_d rfl (d_sub (c := w64 (i - 1)) rfl rfl rfl) <| wA (.int .i64 (w64 (i - 1))) rfl rfl <| w_done <| w_inLoop <| w_sl 4 (.slice none 0 0) rfl <| w_sl 5 (.slice none 0 0) rfl <| w_sl 8 (.int .i64 n) rfl <| w_sl 9 (v_d) rfl ?_
 refine w_sl 10 (v_r_) rfl <| w_sl 11 (v_q) rfl <| w_sl 12 (.int .i64 (w64 (i - 1))) rfl <| hh.l0 hle he h_d h_r_ h100
theorem wide_long.b0_ok {k : Nat} {h : wide_long.Hs} (hh : wide_long.OK h) {H0 H : Hp} {L : Items} {r : (List Int) × (List Int)} {jk_ : Nat → Value} {n : Int} {d : List Int} {r_ : List Int} {q : List Int} {i : Int} {v_d : Value} {v_r_ : Value} {v_q : Value} {i_r_ : Item'} {i_q : Item'} (hle : H0.le H) (he : wide_long.b0 k h n d r_ q i = some r) (h_d : Ro kU32 H v_d d) (h_r_ : Sl kU32 H 167 i_r_ v_r_ r_) (h_q : Sl kU32 H 167 i_q v_q q) : Wp Tryz.prog 142 86 wide_long.Kl0 (upd (upd (upd (upd (upd (upd (upd jk_ 4 (.slice none 0 0)) 5 (.slice none 0 0)) 8 (.int .i64 n)) 9 (v_d)) 10 (v_r_)) 11 (v_q)) 12 (.int .i64 i)) H (i_q :: i_r_ :: L) (wide_long.R H0 L r) := by
 unfold wide_long.b0 at he
 unfold wide_long.Kl0
 refine w_seq <| wR rfl <| wM (.int .i64 i) rfl rfl <| w_d rfl (d_geq rfl rfl) <| w_done ?_
 rcases its he with ⟨c62, he⟩ | ⟨c62, he⟩
 ·
  refine w_then rfl (dt c62) <| w_skip <| w_seq <| w_block <| wR rfl <| wM v_r_ rfl rfl <| wM v_d rfl rfl <| wM (.int .i64 i) rfl rfl ?_
  obtain ⟨y63, hy64, he⟩ := bs he
  refine w_d rfl (call_d (o_call co156 (vs := [v_r_, v_d, .int .i64 i]) rfl (wide_guess.calls k hy64 (h_r_.src (.there .here)) h_d.src))) <| wA (.int .u64 y63) rfl rfl <| wE <| wR rfl <| wM v_r_ rfl rfl <| wM v_d rfl rfl <| wM (.int .i64 i) rfl rfl <| wM (.int .u64 y63) rfl rfl ?_
  obtain ⟨y67, hy68, he⟩ := bs he
  refine w_a rfl (o_call co157 (vs := [v_r_, v_d, .int .i64 i, .int .u64 y63]) rfl (ct_at (F := fun z_ => i_q :: z_ :: L) (wide_takeOff.calls k hy68 h_r_ h_d.src) (.there .here) (fun _ => (.there .here)))) ?_
  rintro _ H69 _ ⟨i71, rfl, e70, h72, rfl⟩
  refine w_done ?_
  rcases its he with ⟨c73, he⟩ | ⟨c73, he⟩
  ·
   refine w_then rfl c73 <| wR rfl <| wM (.int .u64 y63) rfl rfl <| w_d rfl (d_sub (c := (y63 - 1) % 18446744073709551616) rfl rfl rfl) <| wA (.int .u64 ((y63 - 1) % 18446744073709551616)) rfl rfl <| w_done <| w_region rfl <| wM v_r_ rfl rfl <| wM v_d rfl rfl <| wM (.int .i64 i) rfl rfl ?_
   obtain ⟨y74, hy75, he⟩ := bs he
   refine w_a rfl (o_call co158 (vs := [v_r_, v_d, .int .i64 i]) rfl (ct_at (F := fun z_ => i_q :: z_ :: L) (wide_giveBack.calls k hy75 h72 ((h_d.mono e70).src)) (.there .here) (fun _ => (.there .here)))) ?_
   rintro _ H76 _ ⟨i78, rfl, e77, h79, rfl⟩
   refine w_done <| w_sl 4 (.slice none 0 0) rfl <| w_sl 5 (.slice none 0 0) rfl <| w_sl 8 (.int .i64 n) rfl <| w_sl 9 (v_d) rfl <| w_sl 10 (v_r_) rfl <| w_sl 11 (v_q) rfl <| w_sl 12 (.int .i64 i) rfl <| w_sl 13 (.int .u64 ((y63 - 1) % 18446744073709551616)) rfl <| wide_long.j2_ok (k := k) hh (hle.trans (e70.trans e77)) he (h_d.mono (e70.trans e77)) h79 (h_q.mono (e70.trans e77))
  ·
   refine w_else rfl (Bool.eq_false_iff.2 c73) <| w_skip <| w_sl 4 (.slice none 0 0) rfl <| w_sl 5 (.slice none 0 0) rfl <| w_sl 8 (.int .i64 n) rfl <| w_sl 9 (v_d) rfl <| w_sl 10 (v_r_) rfl <| w_sl 11 (v_q) rfl <| w_sl 12 (.int .i64 i) rfl <| w_sl 13 (.int .u64 y63) rfl <| wide_long.j2_ok (k := k) hh (hle.trans e70) he (h_d.mono e70) h72 (h_q.mono e70)
 ·
  refine w_else rfl (df c62) <| w_exit rfl <| wR rfl <| wM v_q rfl rfl <| w_freeze h_q .here ?_
  intro H80 e81 h82
  obtain ⟨y83, hy84, he⟩ := bs he
  refine w_a rfl (o_call co113 (vs := [v_q]) rfl (wide_trim.calls k hy84 h82)) ?_
  rintro v87 H85 _ ⟨rfl, e86, h88⟩
  refine wM v_r_ rfl rfl <| wM (.int .i64 n) rfl rfl <| w_freeze (h_r_.mono (e81.trans e86)) (.there .here) ?_
  intro H89 e90 h91
  obtain ⟨y92, hy93, he⟩ := bs he
  refine w_a rfl (o_call co118 (vs := [v_r_, .int .i64 n]) rfl (wide_down.calls k hy93 h91)) ?_
  rintro v96 H94 _ ⟨rfl, e95, h97⟩
  refine wA v87 rfl rfl <| wA v96 rfl rfl <| w_done ?_
  obtain rfl := sj he
  refine w_return fn_142 rs_142 (.tmp (v := v87) rfl (.tmp (v := v96) rfl .nil)) <| ⟨⟨[_, _], rfl⟩, hle.trans (((e81.trans e86).trans e90).trans e95), ⟨v87, v96, rfl, (h88.mono (e90.trans e95)), h97⟩⟩
theorem wide_long.ok : ∀ k, wide_long.OK (wide_long.hs k)
 | 0 => ⟨(by intros; exact nomatch (show none = some _ from by assumption))⟩
 | k + 1 => ⟨wide_long.b0_ok (k := k) (wide_long.ok k)⟩
theorem wide_long.calls (k : Nat) {H : Hp} {L : Items} {a : List Int} {b : List Int} {v0_a : Value} {v1_b : Value} {r : (List Int) × (List Int)} (he : wide_long.f k a b = some r) (h0_a : Ro kU32 H v0_a a) (h1_b : Src kU32 H L v1_b b) : Ct Tryz.prog 142 ⟨[v0_a, v1_b]⟩ H L (cR H L (wide_long.out r)) := by
 refine ct_out (O := wide_long.out r) ?_
 have hle : H.le H := .refl _
 have hh := wide_long.ok k
 unfold wide_long.f at he
 refine ct_enter (args := [v0_a, v1_b]) fn_142 rfl nt_142 rfl <| wR rfl <| wA (.slice none 0 0) rfl rfl <| wA (.slice none 0 0) rfl rfl <| wE <| wR rfl <| wM v0_a rfl rfl <| wM v1_b rfl rfl ?_
 obtain ⟨y1, hy2, he⟩ := bs he
 refine w_d rfl (call_d (o_call co137 (vs := [v0_a, v1_b]) rfl (wide_less.calls k hy2 h0_a.src h1_b))) <| w_d rfl (d_lss rfl rfl) <| w_done ?_
 rcases its he with ⟨c5, he⟩ | ⟨c5, he⟩
 ·
  refine w_then rfl (dt c5) <| wR rfl <| wM v0_a rfl rfl <| wA (.slice none 0 0) rfl rfl <| wA v0_a rfl rfl <| w_done ?_
  obtain rfl := sj he
  refine w_return fn_142 rs_142 (.tmp (v := .slice none 0 0) rfl (.tmp (v := v0_a) rfl .nil)) <| ⟨⟨[], rfl⟩, hle, ⟨.slice none 0 0, v0_a, rfl, (ro_nil _ _), h0_a⟩⟩
 ·
  refine w_else rfl (df c5) <| w_skip <| w_seq <| wR rfl <| wM v1_b rfl rfl <| w_d rfl (d_len Tryz.underlying22 rfl h1_b) <| w_d rfl (d_eql rfl rfl) <| w_done ?_
  rcases its he with ⟨c6, he⟩ | ⟨c6, he⟩
  ·
   refine w_then rfl (dt c6) <| wR rfl <| wM v0_a rfl rfl <| wM v1_b rfl rfl ?_
   obtain ⟨c7, he⟩ := rq he
   refine w_d rfl (d_index (sz := 1) Tryz.underlying22 sz167 rfl h1_b rfl c7) <| w_d rfl (d_ldint ty167 rfl h1_b c7) ?_
   obtain ⟨y8, hy9, he⟩ := bs he
   refine w_a rfl (o_call co130 (vs := [v0_a, .int .u32 (rd b 0)]) rfl (wide_short.calls k hy9 h0_a.src)) ?_
   rintro _ H10 _ ⟨rfl, e11, ⟨v12, rfl, h13⟩⟩
   refine wM (.tuple ⟨[v12, .int .u32 y8.2]⟩) rfl rfl <| w_d rfl (d_ext (vs := [v12, .int .u32 y8.2]) rfl rfl) <| w_d rfl (d_ext (vs := [v12, .int .u32 y8.2]) rfl rfl) <| wA v12 rfl rfl <| wA (.int .u32 y8.2) rfl rfl <| wQ rfl <| wM v12 rfl rfl <| wM (.int .u32 y8.2) rfl rfl <| w_a rfl (o_buildSlice' (kd := kU32) (css := [[.int .u32 y8.2]]) (xs := [y8.2]) (parts := [(0, .int .u32 y8.2)]) Tryz.underlying22 ti167 rfl ⟨_, _, rfl, rfl, rfl⟩ ⟨rfl, trivial⟩ rfl (by decide)) ?_
   rintro v14 _ _ ⟨i15, rfl, rfl, h16⟩
   refine w_freeze h16 .here ?_
   intro H17 e18 h19
   obtain ⟨y20, hy21, he⟩ := bs he
   refine w_a rfl (o_call co113 (vs := [v14]) rfl (wide_trim.calls k hy21 h19)) ?_
   rintro v24 H22 _ ⟨rfl, e23, h25⟩
   refine wA v12 rfl rfl <| wA v24 rfl rfl <| w_done ?_
   obtain rfl := sj he
   refine w_return fn_142 rs_142 (.tmp (v := v12) rfl (.tmp (v := v24) rfl .nil)) <| ⟨⟨[_], rfl⟩, hle.trans ((e11.trans e18).trans e23), ⟨v12, v24, rfl, (h13.mono (e18.trans e23)), h25⟩⟩
  ·
   refine w_else rfl (df c6) <| w_skip <| wR rfl <| wM v1_b rfl rfl <| wM v1_b rfl rfl <| w_d rfl (d_len Tryz.underlying22 rfl h1_b) <| w_d rfl (d_sub (c := w64 ((b.length : Int) - 1)) rfl rfl rfl) ?_
   obtain ⟨c26, he⟩ := rq he
   refine w_d rfl (d_index (sz := 1) Tryz.underlying22 sz167 rfl h1_b rfl c26) <| w_d rfl (d_ldint ty167 rfl h1_b c26) ?_
   obtain ⟨y27, hy28, he⟩ := bs he
   refine w_d rfl (call_d (o_call co155 (vs := [.int .u32 (rd b (w64 ((b.length : Int) - 1)))]) rfl (bits_LeadingZeros32.calls k hy28))) <| wA (.int .i64 y27) rfl rfl <| wQ rfl <| wM v1_b rfl rfl <| wM (.int .i64 y27) rfl rfl ?_
   obtain ⟨y31, hy32, he⟩ := bs he
   refine w_a rfl (o_call co114 (vs := [v1_b, .int .i64 y27]) rfl (wide_up.calls k hy32 h1_b)) ?_
   rintro v37 H33 _ ⟨i38, rfl, e34, h39⟩
   refine w_freeze h39 .here ?_
   intro H40 e41 h42
   obtain ⟨y43, hy44, he⟩ := bs he
   refine w_a rfl (o_call co113 (vs := [v37]) rfl (wide_trim.calls k hy44 h42)) ?_
   rintro v47 H45 _ ⟨rfl, e46, h48⟩
   refine wA v47 rfl rfl <| wQ rfl <| wM v0_a rfl rfl <| wM (.int .i64 y27) rfl rfl ?_
   obtain ⟨y49, hy50, he⟩ := bs he
   refine w_a rfl (o_call co114 (vs := [v0_a, .int .i64 y27]) rfl (wide_up.calls k hy50 ((h0_a.mono ((e34.trans e41).trans e46)).src))) ?_
   rintro v55 H51 _ ⟨i56, rfl, e52, h57⟩
   refine wA v55 rfl rfl <| wQ rfl <| wM v55 rfl rfl <| w_d rfl (d_lenS Tryz.underlying22 rfl h57.shp) <| wM v47 rfl rfl <| w_d rfl (d_len Tryz.underlying22 rfl (h48.mono e52).src) <| w_d rfl (d_sub (c := w64 ((y49.length : Int) - (y43.length : Int))) rfl rfl rfl) ?_
   obtain ⟨c58, he⟩ := rq he
   refine w_a rfl (o_make' (kd := kU32) (z0 := 0) Tryz.underlying22 ti167 (zp167 _) rfl rfl (by omega) (by omega) (by omega)) ?_
   rintro v59 _ _ ⟨i60, rfl, rfl, h61⟩
   refine wA v59 rfl rfl <| wE <| wR rfl <| wM v59 rfl rfl <| w_d rfl (d_lenS Tryz.underlying22 rfl h61.shp) <| w_d rfl (d_sub (c := w64 (((List.replicate (w64 ((y49.length : Int) - (y43.length : Int)) : Int).toNat (0 : Int)).length : Int) - 1)) rfl rfl rfl) <| wA (.int .i64 (w64 (((List.replicate (w64 ((y49.length : Int) - (y43.length : Int)) : Int).toNat (0 : Int)).length : Int) - 1))) rfl rfl <| w_done <| w_block <| w_loop ?_
   refine w_del (.there (.there .here)) <| w_sl 4 (.slice none 0 0) rfl <| w_sl 5 (.slice none 0 0) rfl <| w_sl 8 (.int .i64 y27) rfl <| w_sl 9 (v47) rfl <| w_sl 10 (v55) rfl <| w_sl 11 (v59) rfl <| w_sl 12 (.int .i64 (w64 (((List.replicate (w64 ((y49.length : Int) - (y43.length : Int)) : Int).toNat (0 : Int)).length : Int) - 1))) rfl <| hh.l0 (hle.trans (((e34.trans e41).trans e46).trans e52)) he (h48.mono e52) h57 h61
noncomputable def wide_Of.C : Code := (Tryz.f71.body).getD .skip
def wide_Of.out (r : wide_Int) (H : Hp) (v : Value) : Prop := ∃ v0, v = .agg ⟨[.bool r.f_neg, v0]⟩ ∧ Ro kU32 H v0 r.f_w
theorem wide_Of.out_mono (r : wide_Int) {H H' : Hp} {v : Value} (hle : H.le H') (h : wide_Of.out r H v) : wide_Of.out r H' v := by
 obtain ⟨v0, rfl, h0⟩ := h; exact ⟨v0, rfl, h0.mono hle⟩
abbrev wide_Of.R (H0 : Hp) (L : Items) (r : wide_Int) := fR H0 L (wide_Of.out r)
noncomputable def wide_Of.j1 (k : Nat)  (n : Int) (v_ : Int) : Option wide_Int := (wide_trim.f k [(v_) % 4294967296, (v_ / 4294967296) % 4294967296]).bind fun y9 => some ((⟨decide (n < 0), y9⟩ : wide_Int))
noncomputable def wide_Of.f (k : Nat) (n : Int) : Option wide_Int := if n < 0 then (wide_Of.j1 k n ((0 - ((n) % 18446744073709551616)) % 18446744073709551616)) else (wide_Of.j1 k n ((n) % 18446744073709551616))
theorem wide_Of.j1_mono {k : Nat} : ∀ y0 y1, LeO (wide_Of.j1 k y0 y1) (wide_Of.j1 (k + 1) y0 y1) := fun _ _ => (LeO.bind (wide_trim.mono k _) fun _ => LeO.refl _)
theorem wide_Of.mono : ∀ k y0, LeO (wide_Of.f k y0) (wide_Of.f (k + 1) y0) := fun k _ => by unfold wide_Of.f; exact (LeO.ite (wide_Of.j1_mono (k := k)  _ _) (wide_Of.j1_mono (k := k)  _ _))
noncomputable def wide_Of.Kj1 : List Item := .code (seqR (seqR (seqR wide_Of.C))) :: []
theorem wide_Of.j1_ok {k : Nat} {H0 H : Hp} {L : Items} {r : wide_Int} {jk_ : Nat → Value} {n : Int} {v_ : Int} {b_t2 : Nat} (hle : H0.le H) (he : wide_Of.j1 k n v_ = some r) : Wp Tryz.prog 71 20 wide_Of.Kj1 (upd (upd (upd jk_ 0 (.int .i64 n)) 2 (.pointer (some ⟨b_t2, 0, none⟩))) 3 (.int .u64 v_)) H (some (b_t2, .cells ⟨[.bool false, .slice none 0 0]⟩ 24 (0, 0)) :: L) (wide_Of.R H0 L r) := by
 unfold wide_Of.j1 at he
 unfold wide_Of.Kj1
 refine wR rfl <| wM (.int .i64 n) rfl rfl <| w_d rfl (d_lss rfl rfl) <| wM (.int .u64 v_) rfl rfl <| w_d rfl (d_conv (c := (v_) % 4294967296) Tryz.underlying113 Tryz.underlying167 rfl rfl) <| wM (.int .u64 v_) rfl rfl <| w_d rfl (d_shr (c := v_ / 4294967296) rfl rfl (by decide) rfl) <| w_d rfl (d_conv (c := (v_ / 4294967296) % 4294967296) Tryz.underlying113 Tryz.underlying167 rfl rfl) <| w_a rfl (o_buildSlice' (kd := kU32) (css := [[.int .u32 ((v_) % 4294967296)], [.int .u32 ((v_ / 4294967296) % 4294967296)]]) (xs := [(v_) % 4294967296, (v_ / 4294967296) % 4294967296]) (parts := [(0, .int .u32 ((v_) % 4294967296)), (1, .int .u32 ((v_ / 4294967296) % 4294967296))]) Tryz.underlying22 ti167 rfl ⟨_, _, rfl, rfl, ⟨_, _, rfl, rfl, rfl⟩⟩ ⟨rfl, ⟨rfl, trivial⟩⟩ rfl (by decide)) ?_
 rintro v3 _ _ ⟨i4, rfl, rfl, h5⟩
 refine w_freeze h5 .here ?_
 intro H6 e7 h8
 obtain ⟨y9, hy10, he⟩ := bs he
 refine w_a rfl (o_call co113 (vs := [v3]) rfl (wide_trim.calls k hy10 h8)) ?_
 rintro v13 H11 _ ⟨rfl, e12, h14⟩
 refine w_d rfl (d_build (cs' := [.bool (decide (n < 0)), v13]) Tryz.underlying24 zr24 rfl (by kernel_rfl) (parts := [(0, .bool (decide (n < 0))), (1, v13)]) rfl (.cons (place_of rfl sz4 rfl) rfl rfl u1 (.cons (place_of rfl sz22 rfl) h14.cells rfl (.there u1) .nil))) <| w_a0 rfl (o_store (v := .agg ⟨[.bool (decide (n < 0)), v13]⟩) sz24 rfl rfl rfl rfl (oc rfl (oc (h14.one) oz)) (.there .here) u2) ?_
 rintro _ _ _ ⟨rfl, rfl, rfl⟩
 refine w_done ?_
 obtain rfl := sj he
 refine w_return fn_71 rs_71 (.box (v := .agg ⟨[.bool (decide (n < 0)), v13]⟩) rfl ty24 rfl rfl (.there .here) rfl .nil) <| ⟨⟨[_, _], rfl⟩, hle.trans (e7.trans e12), ⟨v13, rfl, h14⟩⟩
theorem wide_Of.calls (k : Nat) {H : Hp} {L : Items} {n : Int} {r : wide_Int} (he : wide_Of.f k n = some r) : Ct Tryz.prog 71 ⟨[.int .i64 n]⟩ H L (cR H L (wide_Of.out r)) := by
 refine ct_out (O := wide_Of.out r) ?_
 have hle : H.le H := .refl _
 unfold wide_Of.f at he
 refine ct_enter (args := [.int .i64 n]) fn_71 rfl nt_71 rfl <| wR rfl <| w_a rfl (o_alloc zr24 rfl) ?_
 rintro _ _ _ ⟨b1, rfl, rfl, rfl⟩
 refine wQ rfl <| wM (.int .i64 n) rfl rfl <| w_d rfl (d_conv (c := (n) % 18446744073709551616) Tryz.underlying2 Tryz.underlying113 rfl rfl) <| wA (.int .u64 ((n) % 18446744073709551616)) rfl rfl <| wE <| wR rfl <| wM (.int .i64 n) rfl rfl <| w_d rfl (d_lss rfl rfl) ?_
 refine w_done ?_
 rcases its he with ⟨c2, he⟩ | ⟨c2, he⟩
 ·
  refine w_then rfl (dt c2) <| w_region rfl <| wM (.int .u64 ((n) % 18446744073709551616)) rfl rfl <| w_d rfl (d_neg (c := (0 - ((n) % 18446744073709551616)) % 18446744073709551616) rfl rfl) <| wA (.int .u64 ((0 - ((n) % 18446744073709551616)) % 18446744073709551616)) rfl rfl <| w_done <| w_sl 0 (.int .i64 n) rfl <| w_sl 2 (.pointer (some ⟨b1, 0, none⟩)) rfl <| w_sl 3 (.int .u64 ((0 - ((n) % 18446744073709551616)) % 18446744073709551616)) rfl <| wide_Of.j1_ok (k := k) hle he
 ·
  refine w_else rfl (df c2) <| w_skip <| w_sl 0 (.int .i64 n) rfl <| w_sl 2 (.pointer (some ⟨b1, 0, none⟩)) rfl <| w_sl 3 (.int .u64 ((n) % 18446744073709551616)) rfl <| wide_Of.j1_ok (k := k) hle he
noncomputable def bits_Sub32.C : Code := (Tryz.f159.body).getD .skip
def bits_Sub32.out (r : Int × Int) (H : Hp) (v : Value) : Prop := v = .tuple ⟨[.int .u32 r.1, .int .u32 r.2]⟩
noncomputable def bits_Sub32.f (k : Nat) (x : Int) (y : Int) (borrow : Int) : Option (Int × Int) := some ((((x - y) % 4294967296) - borrow) % 4294967296, (ior .u32 (iand .u32 (ixor .u32 4294967295 x) y) (iand .u32 (ixor .u32 4294967295 (ixor .u32 x y)) ((((x - y) % 4294967296) - borrow) % 4294967296))) / 2147483648)
theorem bits_Sub32.mono : ∀ k y0 y1 y2, LeO (bits_Sub32.f k y0 y1 y2) (bits_Sub32.f (k + 1) y0 y1 y2) := fun k _ _ _ => by unfold bits_Sub32.f; exact (LeO.refl _)
theorem bits_Sub32.calls (k : Nat) {H : Hp} {L : Items} {x : Int} {y : Int} {borrow : Int} {r : Int × Int} (he : bits_Sub32.f k x y borrow = some r) : Ct Tryz.prog 159 ⟨[.int .u32 x, .int .u32 y, .int .u32 borrow]⟩ H L (fun v H' L' => L = L' ∧ H = H' ∧ v = .tuple ⟨[.int .u32 r.1, .int .u32 r.2]⟩) := by
 refine ct_outs (O := bits_Sub32.out r) (fun _ _ h => h) ?_
 have hle : H.le H := .refl _
 unfold bits_Sub32.f at he
 refine ct_enter (args := [.int .u32 x, .int .u32 y, .int .u32 borrow]) fn_159 rfl nt_159 rfl <| wR rfl <| wA (.int .u32 0) rfl rfl <| wA (.int .u32 0) rfl rfl <| wQ rfl <| wM (.int .u32 x) rfl rfl <| wM (.int .u32 y) rfl rfl <| w_d rfl (d_sub (c := (x - y) % 4294967296) rfl rfl rfl) <| wM (.int .u32 borrow) rfl rfl ?_
 refine w_d rfl (d_sub (c := (((x - y) % 4294967296) - borrow) % 4294967296) rfl rfl rfl) <| wA (.int .u32 ((((x - y) % 4294967296) - borrow) % 4294967296)) rfl rfl <| wQ rfl <| wM (.int .u32 x) rfl rfl <| w_d rfl (d_inv rfl) <| wM (.int .u32 y) rfl rfl <| w_d rfl (d_band rfl rfl) <| wM (.int .u32 x) rfl rfl <| wM (.int .u32 y) rfl rfl <| w_d rfl (d_bxor rfl rfl) ?_
 refine w_d rfl (d_inv rfl) <| wM (.int .u32 ((((x - y) % 4294967296) - borrow) % 4294967296)) rfl rfl <| w_d rfl (d_band rfl rfl) <| w_d rfl (d_bor rfl rfl) <| w_d rfl (d_shr (c := (ior .u32 (iand .u32 (ixor .u32 4294967295 x) y) (iand .u32 (ixor .u32 4294967295 (ixor .u32 x y)) ((((x - y) % 4294967296) - borrow) % 4294967296))) / 2147483648) rfl rfl (by decide) rfl) <| wA (.int .u32 ((ior .u32 (iand .u32 (ixor .u32 4294967295 x) y) (iand .u32 (ixor .u32 4294967295 (ixor .u32 x y)) ((((x - y) % 4294967296) - borrow) % 4294967296))) / 2147483648)) rfl rfl <| w_done ?_
 obtain rfl := sj he
 refine w_return fn_159 rs_159 (.tmp (v := .int .u32 ((((x - y) % 4294967296) - borrow) % 4294967296)) rfl (.tmp (v := .int .u32 ((ior .u32 (iand .u32 (ixor .u32 4294967295 x) y) (iand .u32 (ixor .u32 4294967295 (ixor .u32 x y)) ((((x - y) % 4294967296) - borrow) % 4294967296))) / 2147483648)) rfl .nil)) <| ⟨⟨[], rfl⟩, hle, rfl⟩
noncomputable def wide_minus.C : Code := (Tryz.f143.body).getD .skip
abbrev wide_minus.out (r : (List Int)) (H : Hp) (v : Value) : Prop := Ro kU32 H v r
abbrev wide_minus.R (H0 : Hp) (L : Items) (r : (List Int)) := fR H0 L (wide_minus.out r)
structure wide_minus.Hs where
 l0 : (List Int) → (List Int) → Int → (List Int) → Int → Int → Option (List Int)
noncomputable def wide_minus.j2 (k : Nat) (h : wide_minus.Hs)  (b : List Int) (out : List Int) (borrow : Int) (x : Int) (y : Int) (t14 : List Int) (t15 : Int) (t16 : Int) : Option (List Int) := (bits_Sub32.f k x y borrow).bind fun y18 => if out.length + 1 ≤ 35184372088704 then (h.l0 b (out ++ [y18.1]) y18.2 t14 t15 (w64 (t16 + 1))) else none
noncomputable def wide_minus.b0 (k : Nat) (h : wide_minus.Hs)  (b : List Int) (out : List Int) (borrow : Int) (t14 : List Int) (t15 : Int) (t16 : Int) : Option (List Int) := if t16 < t15 then (if (0 : Int) ≤ t16 ∧ t16 < (t14.length : Int) then (if t16 < (b.length : Int) then (if (0 : Int) ≤ t16 ∧ t16 < (b.length : Int) then (wide_minus.j2 k h b out borrow (rd t14 t16) (rd b t16) t14 t15 t16) else none) else (wide_minus.j2 k h b out borrow (rd t14 t16) 0 t14 t15 t16)) else none) else ((wide_trim.f k out).bind fun y12 => some (y12))
noncomputable def wide_minus.hs : Nat → wide_minus.Hs
 | 0 => ⟨fun _ _ _ _ _ _ => none⟩
 | k + 1 => ⟨fun x0 x1 x2 x3 x4 x5 => wide_minus.b0 k (wide_minus.hs k) x0 x1 x2 x3 x4 x5⟩
noncomputable def wide_minus.f (k : Nat) (a : List Int) (b : List Int) : Option (List Int) := (fun h : wide_minus.Hs => if 0 ≤ 0 ∧ 0 ≤ (a.length : Int) ∧ (a.length : Int) ≤ 70368744177664 then (h.l0 b (List.replicate (0 : Int).toNat (0 : Int)) 0 a (a.length : Int) 0) else none) (wide_minus.hs k)
structure wide_minus.LE (h h' : wide_minus.Hs) : Prop where
 l0 : ∀ y0 y1 y2 y3 y4 y5, LeO (h.l0 y0 y1 y2 y3 y4 y5) (h'.l0 y0 y1 y2 y3 y4 y5)
theorem wide_minus.j2_mono {k : Nat} {h h' : wide_minus.Hs} (hl : wide_minus.LE h h') : ∀ y0 y1 y2 y3 y4 y5 y6 y7, LeO (wide_minus.j2 k h y0 y1 y2 y3 y4 y5 y6 y7) (wide_minus.j2 (k + 1) h' y0 y1 y2 y3 y4 y5 y6 y7) := fun _ _ _ _ _ _ _ _ => (LeO.bind (bits_Sub32.mono k _ _ _) fun _ => LeO.ite (hl.l0 _ _ _ _ _ _) (LeO.refl _))
theorem wide_minus.b0_mono {k : Nat} {h h' : wide_minus.Hs} (hl : wide_minus.LE h h') : ∀ y0 y1 y2 y3 y4 y5, LeO (wide_minus.b0 k h y0 y1 y2 y3 y4 y5) (wide_minus.b0 (k + 1) h' y0 y1 y2 y3 y4 y5) := fun _ _ _ _ _ _ => (LeO.ite (LeO.ite (LeO.ite (LeO.ite (wide_minus.j2_mono (k := k) hl _ _ _ _ _ _ _ _) (LeO.refl _)) (wide_minus.j2_mono (k := k) hl _ _ _ _ _ _ _ _)) (LeO.refl _)) (LeO.bind (wide_trim.mono k _) fun _ => LeO.refl _))
theorem wide_minus.hs_mono : ∀ k, wide_minus.LE (wide_minus.hs k) (wide_minus.hs (k + 1))
 | 0 => ⟨fun _ _ _ _ _ _ => LeO.none _⟩
 | k + 1 => ⟨wide_minus.b0_mono (k := k) (wide_minus.hs_mono k)⟩
theorem wide_minus.mono : ∀ k y0 y1, LeO (wide_minus.f k y0 y1) (wide_minus.f (k + 1) y0 y1) := fun k _ _ => have hl := wide_minus.hs_mono k; by unfold wide_minus.f; exact (LeO.ite (hl.l0 _ _ _ _ _ _) (LeO.refl _))
noncomputable def wide_minus.Kl0 : List Item := .code (lopB (blkB (seqR (seqL (seqR (seqR (seqR wide_minus.C))))))) :: .inLoop (lopB (blkB (seqR (seqL (seqR (seqR (seqR wide_minus.C))))))) :: .inBlock 0 :: .code (seqR (seqR (seqR (seqR wide_minus.C)))) :: []
noncomputable def wide_minus.Kj2 : List Item := .code (seqR (seqR (seqR (blkB (seqL (seqR (seqR (lopB (blkB (seqR (seqL (seqR (seqR (seqR wide_minus.C)))))))))))))) :: .inBlock 1 :: .code (seqR (seqR (seqR (lopB (blkB (seqR (seqL (seqR (seqR (seqR wide_minus.C)))))))))) :: .inLoop (lopB (blkB (seqR (seqL (seqR (seqR (seqR wide_minus.C))))))) :: .inBlock 0 :: .code (seqR (seqR (seqR (seqR wide_minus.C)))) :: []
structure wide_minus.OK (h : wide_minus.Hs) : Prop where
 l0 : ∀ {H0 H : Hp} {L : Items} {r : (List Int)} {jk_ : Nat → Value} {b : List Int} {out : List Int} {borrow : Int} {t14 : List Int} {t15 : Int} {t16 : Int} {v_b : Value} {v_out : Value} {v_t14 : Value} {i_out : Item'} (_ : H0.le H) (_he : h.l0 b out borrow t14 t15 t16 = some r) (_h_b : Src kU32 H L v_b b) (_h_out : Sl kU32 H 167 i_out v_out out) (_h_t14 : Src kU32 H L v_t14 t14), Wp Tryz.prog 143 43 wide_minus.Kl0 (upd (upd (upd (upd (upd (upd (upd jk_ 1 (v_b)) 4 (.slice none 0 0)) 5 (v_out)) 6 (.int .u32 borrow)) 14 (v_t14)) 15 (.int .i64 t15)) 16 (.int .i64 t16)) H (i_out :: L) (wide_minus.R H0 L r)
theorem wide_minus.j2_ok {k : Nat} {h : wide_minus.Hs} (hh : wide_minus.OK h) {H0 H : Hp} {L : Items} {r : (List Int)} {jk_ : Nat → Value} {b : List Int} {out : List Int} {borrow : Int} {x : Int} {y : Int} {t14 : List Int} {t15 : Int} {t16 : Int} {v_b : Value} {v_out : Value} {v_t14 : Value} {i_out : Item'} (hle : H0.le H) (he : wide_minus.j2 k h b out borrow x y t14 t15 t16 = some r) (h_b : Src kU32 H L v_b b) (h_out : Sl kU32 H 167 i_out v_out out) (h_t14 : Src kU32 H L v_t14 t14) : Wp Tryz.prog 143 43 wide_minus.Kj2 (upd (upd (upd (upd (upd (upd (upd (upd (upd jk_ 1 (v_b)) 4 (.slice none 0 0)) 5 (v_out)) 6 (.int .u32 borrow)) 8 (.int .u32 x)) 9 (.int .u32 y)) 14 (v_t14)) 15 (.int .i64 t15)) 16 (.int .i64 t16)) H (i_out :: L) (wide_minus.R H0 L r) := by
 unfold wide_minus.j2 at he
 unfold wide_minus.Kj2
 refine wR rfl <| wA (.int .u32 0) rfl rfl <| wQ rfl <| wM (.int .u32 x) rfl rfl <| wM (.int .u32 y) rfl rfl <| wM (.int .u32 borrow) rfl rfl ?_
 obtain ⟨y18, hy19, he⟩ := bs he
 refine w_d rfl (call_d (o_call co159 (vs := [.int .u32 x, .int .u32 y, .int .u32 borrow]) rfl (bits_Sub32.calls k hy19))) <| wM (.tuple ⟨[.int .u32 y18.1, .int .u32 y18.2]⟩) rfl rfl <| w_d rfl (d_ext (vs := [.int .u32 y18.1, .int .u32 y18.2]) rfl rfl) <| w_d rfl (d_ext (vs := [.int .u32 y18.1, .int .u32 y18.2]) rfl rfl) <| wA (.int .u32 y18.1) rfl rfl <| wA (.int .u32 y18.2) rfl rfl <| w_done <| w_region rfl <| wM v_out rfl rfl <| wM (.int .u32 y18.1) rfl rfl <| w_a rfl (o_buildSlice' (kd := kU32) (css := [[.int .u32 y18.1]]) (xs := [y18.1]) (parts := [(0, .int .u32 y18.1)]) Tryz.underlying22 ti167 rfl ⟨_, _, rfl, rfl, rfl⟩ ⟨rfl, trivial⟩ rfl (by decide)) ?_
 rintro v22 _ _ ⟨i23, rfl, rfl, h24⟩
 obtain ⟨c25, he⟩ := rq he
 refine w_a rfl (o_append' (kd := kU32) (F := fun z_ => i23 :: z_ :: L) Tryz.underlying22 Tryz.underlying22 ti167 rfl (by first | omega | (simp only [List.nil_append, List.length_cons, List.length_nil]; omega)) rfl rfl h_out (h24.src .here) (fun _ => (.there .here))) ?_
 rintro v26 _ _ ⟨i27, rfl, rfl, h28⟩
 refine wA v26 rfl rfl <| w_done <| w_inBlock <| w_region rfl <| w_d rfl (d_add (c := w64 (t16 + 1)) rfl rfl rfl) <| wM (.int .i64 (w64 (t16 + 1))) rfl rfl <| w_done <| w_inLoop <| w_del .here <| w_sl 1 (v_b) rfl <| w_sl 4 (.slice none 0 0) rfl <| w_sl 5 (v26) rfl ?_
 refine w_sl 6 (.int .u32 y18.2) rfl <| w_sl 14 (v_t14) rfl <| w_sl 15 (.int .i64 t15) rfl <| w_sl 16 (.int .i64 (w64 (t16 + 1))) rfl <| hh.l0 hle he h_b h28 h_t14
theorem wide_minus.b0_ok {k : Nat} {h : wide_minus.Hs} (hh : wide_minus.OK h) {H0 H : Hp} {L : Items} {r : (List Int)} {jk_ : Nat → Value} {b : List Int} {out : List Int} {borrow : Int} {t14 : List Int} {t15 : Int} {t16 : Int} {v_b : Value} {v_out : Value} {v_t14 : Value} {i_out : Item'} (hle : H0.le H) (he : wide_minus.b0 k h b out borrow t14 t15 t16 = some r) (h_b : Src kU32 H L v_b b) (h_out : Sl kU32 H 167 i_out v_out out) (h_t14 : Src kU32 H L v_t14 t14) : Wp Tryz.prog 143 43 wide_minus.Kl0 (upd (upd (upd (upd (upd (upd (upd jk_ 1 (v_b)) 4 (.slice none 0 0)) 5 (v_out)) 6 (.int .u32 borrow)) 14 (v_t14)) 15 (.int .i64 t15)) 16 (.int .i64 t16)) H (i_out :: L) (wide_minus.R H0 L r) := by
 unfold wide_minus.b0 at he
 unfold wide_minus.Kl0
 refine wR rfl <| w_d rfl (d_lss rfl rfl) <| wE ?_
 rcases its he with ⟨c5, he⟩ | ⟨c5, he⟩
 ·
  refine w_then rfl (dt c5) <| w_skip <| w_seq <| w_block <| wR rfl <| wM (.int .i64 t16) rfl rfl ?_
  obtain ⟨c6, he⟩ := rq he
  refine w_d rfl (d_index (sz := 1) Tryz.underlying22 sz167 rfl h_t14.th rfl c6) <| w_d rfl (d_ldint ty167 rfl h_t14.th c6) <| wA (.int .i64 t16) rfl rfl <| wA (.int .u32 (rd t14 t16)) rfl rfl <| wQ rfl <| wA (.int .u32 0) rfl rfl <| wE <| wR rfl ?_
  refine wM (.int .i64 t16) rfl rfl <| wM v_b rfl rfl <| w_d rfl (d_len Tryz.underlying22 rfl h_b.th) <| w_d rfl (d_lss rfl rfl) <| w_done ?_
  rcases its he with ⟨c7, he⟩ | ⟨c7, he⟩
  ·
   refine w_then rfl (dt c7) <| w_region rfl <| wM v_b rfl rfl <| wM (.int .i64 t16) rfl rfl ?_
   obtain ⟨c8, he⟩ := rq he
   refine w_d rfl (d_index (sz := 1) Tryz.underlying22 sz167 rfl h_b.th rfl c8) <| w_d rfl (d_ldint ty167 rfl h_b.th c8) <| wA (.int .u32 (rd b t16)) rfl rfl <| w_done <| w_sl 1 (v_b) rfl <| w_sl 4 (.slice none 0 0) rfl <| w_sl 5 (v_out) rfl <| w_sl 6 (.int .u32 borrow) rfl <| w_sl 8 (.int .u32 (rd t14 t16)) rfl <| w_sl 9 (.int .u32 (rd b t16)) rfl <| w_sl 14 (v_t14) rfl <| w_sl 15 (.int .i64 t15) rfl ?_
   refine w_sl 16 (.int .i64 t16) rfl <| wide_minus.j2_ok (k := k) hh hle he h_b h_out h_t14
  ·
   refine w_else rfl (df c7) <| w_skip <| w_sl 1 (v_b) rfl <| w_sl 4 (.slice none 0 0) rfl <| w_sl 5 (v_out) rfl <| w_sl 6 (.int .u32 borrow) rfl <| w_sl 8 (.int .u32 (rd t14 t16)) rfl <| w_sl 9 (.int .u32 0) rfl <| w_sl 14 (v_t14) rfl <| w_sl 15 (.int .i64 t15) rfl <| w_sl 16 (.int .i64 t16) rfl <| wide_minus.j2_ok (k := k) hh hle he h_b h_out h_t14
 ·
  refine w_else rfl (df c5) <| w_exit rfl <| wR rfl <| wM v_out rfl rfl <| w_freeze h_out .here ?_
  intro H9 e10 h11
  obtain ⟨y12, hy13, he⟩ := bs he
  refine w_a rfl (o_call co113 (vs := [v_out]) rfl (wide_trim.calls k hy13 h11)) ?_
  rintro v16 H14 _ ⟨rfl, e15, h17⟩
  refine wA v16 rfl rfl <| w_done ?_
  obtain rfl := sj he
  refine w_return fn_143 rs_143 (.tmp (v := v16) rfl .nil) <| ⟨⟨[_], rfl⟩, hle.trans (e10.trans e15), h17⟩
theorem wide_minus.ok : ∀ k, wide_minus.OK (wide_minus.hs k)
 | 0 => ⟨(by intros; exact nomatch (show none = some _ from by assumption))⟩
 | k + 1 => ⟨wide_minus.b0_ok (k := k) (wide_minus.ok k)⟩
theorem wide_minus.calls (k : Nat) {H : Hp} {L : Items} {a : List Int} {b : List Int} {v0_a : Value} {v1_b : Value} {r : (List Int)} (he : wide_minus.f k a b = some r) (h0_a : Src kU32 H L v0_a a) (h1_b : Src kU32 H L v1_b b) : Ct Tryz.prog 143 ⟨[v0_a, v1_b]⟩ H L (cR H L (wide_minus.out r)) := by
 refine ct_out (O := wide_minus.out r) ?_
 have hle : H.le H := .refl _
 have hh := wide_minus.ok k
 unfold wide_minus.f at he
 refine ct_enter (args := [v0_a, v1_b]) fn_143 rfl nt_143 rfl <| wR rfl <| wA (.slice none 0 0) rfl rfl <| wQ rfl <| wM v0_a rfl rfl <| w_d rfl (d_len Tryz.underlying22 rfl h0_a) ?_
 obtain ⟨c1, he⟩ := rq he
 refine w_a rfl (o_make' (kd := kU32) (z0 := 0) Tryz.underlying22 ti167 (zp167 _) rfl rfl (by omega) (by omega) (by omega)) ?_
 rintro v2 _ _ ⟨i3, rfl, rfl, h4⟩
 refine wA v2 rfl rfl <| wQ rfl <| wA (.int .u32 0) rfl rfl <| wE <| wR rfl <| wM v0_a rfl rfl <| w_d rfl (d_len Tryz.underlying22 rfl h0_a.th) <| wM (.int .i64 0) rfl rfl ?_
 refine w_done <| w_block <| w_loop <| w_sl 1 (v1_b) rfl <| w_sl 4 (.slice none 0 0) rfl <| w_sl 5 (v2) rfl <| w_sl 6 (.int .u32 0) rfl <| w_sl 14 (v0_a) rfl <| w_sl 15 (.int .i64 (a.length : Int)) rfl <| w_sl 16 (.int .i64 0) rfl <| hh.l0 hle he h1_b h4 h0_a
noncomputable def wide_Int_Add.C : Code := (Tryz.f127.body).getD .skip
def wide_Int_Add.out (r : wide_Int × (Option Int)) (H : Hp) (v : Value) : Prop := ∃ v0, v = .tuple ⟨[.agg ⟨[.bool r.1.f_neg, v0]⟩, errV 104 r.2]⟩ ∧ Ro kU32 H v0 r.1.f_w
theorem wide_Int_Add.out_mono (r : wide_Int × (Option Int)) {H H' : Hp} {v : Value} (hle : H.le H') (h : wide_Int_Add.out r H v) : wide_Int_Add.out r H' v := by
 obtain ⟨v0, rfl, h0⟩ := h; exact ⟨v0, rfl, h0.mono hle⟩
abbrev wide_Int_Add.R (H0 : Hp) (L : Items) (r : wide_Int × (Option Int)) := fR H0 L (wide_Int_Add.out r)
noncomputable def wide_Int_Add.j1 (k : Nat)  (a_0 : Bool) (a_1 : List Int) (b_0 : Bool) (b_1 : List Int) : Option (wide_Int × (Option Int)) := (wide_minus.f k a_1 b_1).bind fun y26 => (wide_made.f k a_0 y26).bind fun y32 => some (y32.1, y32.2)
noncomputable def wide_Int_Add.f (k : Nat) (a : wide_Int) (b : wide_Int) : Option (wide_Int × (Option Int)) := if (a.f_neg == b.f_neg) = true then ((wide_plus.f k a.f_w b.f_w).bind fun y5 => (wide_made.f k a.f_neg y5).bind fun y11 => some (y11.1, y11.2)) else ((wide_less.f k a.f_w b.f_w).bind fun y21 => if y21 < 0 then (wide_Int_Add.j1 k b.f_neg b.f_w a.f_neg a.f_w) else (wide_Int_Add.j1 k a.f_neg a.f_w b.f_neg b.f_w))
theorem wide_Int_Add.j1_mono {k : Nat} : ∀ y0 y1 y2 y3, LeO (wide_Int_Add.j1 k y0 y1 y2 y3) (wide_Int_Add.j1 (k + 1) y0 y1 y2 y3) := fun _ _ _ _ => (LeO.bind (wide_minus.mono k _ _) fun _ => LeO.bind (wide_made.mono k _ _) fun _ => LeO.refl _)
theorem wide_Int_Add.mono : ∀ k y0 y1, LeO (wide_Int_Add.f k y0 y1) (wide_Int_Add.f (k + 1) y0 y1) := fun k _ _ => by unfold wide_Int_Add.f; exact (LeO.ite (LeO.bind (wide_plus.mono k _ _) fun _ => LeO.bind (wide_made.mono k _ _) fun _ => LeO.refl _) (LeO.bind (wide_less.mono k _ _) fun _ => LeO.ite (wide_Int_Add.j1_mono (k := k)  _ _ _ _) (wide_Int_Add.j1_mono (k := k)  _ _ _ _)))
noncomputable def wide_Int_Add.Kj1 : List Item := .code (seqR (seqR (seqR wide_Int_Add.C))) :: []
theorem wide_Int_Add.j1_ok {k : Nat} {H0 H : Hp} {L : Items} {r : wide_Int × (Option Int)} {jk_ : Nat → Value} {a_0 : Bool} {a_1 : List Int} {b_0 : Bool} {b_1 : List Int} {v_a_1 : Value} {v_b_1 : Value} {b_a : Nat} {b_b : Nat} {b_t4 : Nat} (hle : H0.le H) (he : wide_Int_Add.j1 k a_0 a_1 b_0 b_1 = some r) (h_a_1 : Ro kU32 H v_a_1 a_1) (h_b_1 : Ro kU32 H v_b_1 b_1) : Wp Tryz.prog 127 39 wide_Int_Add.Kj1 (upd (upd (upd (upd jk_ 2 (.pointer (some ⟨b_a, 0, none⟩))) 3 (.pointer (some ⟨b_b, 0, none⟩))) 4 (.pointer (some ⟨b_t4, 0, none⟩))) 5 (errV 104 none)) H (some (b_t4, .cells ⟨[.bool false, .slice none 0 0]⟩ 24 (0, 0)) :: some (b_b, .cells ⟨[.bool b_0, v_b_1]⟩ 24 (0, 0)) :: some (b_a, .cells ⟨[.bool a_0, v_a_1]⟩ 24 (0, 0)) :: L) (wide_Int_Add.R H0 L r) := by
 unfold wide_Int_Add.j1 at he
 unfold wide_Int_Add.Kj1
 refine w_seq ?_
 obtain ⟨y26, hy27, he⟩ := bs he
 obtain ⟨y32, hy33, he⟩ := bs he
 refine w_drawn (p := 10) (tl := [10, 11]) [[], [(0, some 29)], [], [(2, some 31)], [], [(4, some 33)], [(3, some 32), (5, some 34)], [(1, some 30), (6, some 35)], [(7, some 36)], [(7, some 36)]] [some 29, some 30, some 31, some 32, some 33, some 34, some 35, some 36, some 37, some 38] (fctF (.is (.pointer (some ⟨b_a, 0, none⟩)) :: .is (.bool a_0) :: .is (.pointer (some ⟨b_a, 1, none⟩)) :: .is (v_a_1) :: .is (.pointer (some ⟨b_b, 1, none⟩)) :: .is (v_b_1) :: .ro kU32 (y26) :: .of (wide_made.out y32) (wide_made.out_mono _) :: .of (fun H v => ∃ v38, v = .agg ⟨[.bool y32.1.f_neg, v38]⟩ ∧ Ro kU32 H v38 y32.1.f_w) (by rintro _ _ _ hle ⟨v38, rfl, h39⟩; exact ⟨v38, rfl, h39.mono hle⟩) :: .is (errV 104 y32.2) :: [])) (fun m_ => some (b_t4, .cells ⟨[.bool false, .slice none 0 0]⟩ 24 (0, 0)) :: some (b_b, .cells ⟨[.bool b_0, v_b_1]⟩ 24 (0, 0)) :: some (b_a, .cells ⟨[.bool a_0, v_a_1]⟩ 24 (0, 0)) :: L) (fun _ => none) mixed (by kernel_rfl) (by kernel_rfl) rfl (fct_mono (by kernel_rfl)) ⟨(fun H' m_ hH hm_ hu_ => dn <| s_d (m_ 0) rfl (d_fld (o' := 0) Tryz.underlying24 rfl sz4 rfl rfl rfl) (by exact rfl) rfl), (by rintro H' m_ hH hm_ hu_ _ rfl; exact dn <| s_d (m_ 1) rfl (d_loado (v := .bool a_0) ty4 rfl (.there (.there .here)) rfl rfl rfl rfl) (by exact rfl) rfl), (fun H' m_ hH hm_ hu_ => dn <| s_d (m_ 2) rfl (d_fld (o' := 1) Tryz.underlying24 rfl sz22 rfl rfl rfl) (by exact rfl) rfl), (by rintro H' m_ hH hm_ hu_ _ rfl; exact dn <| s_d (m_ 3) rfl (d_loado (v := v_a_1) ty22 rfl (.there (.there .here)) rfl rfl rfl rfl) (by exact rfl) rfl), (fun H' m_ hH hm_ hu_ => dn <| s_d (m_ 4) rfl (d_fld (o' := 1) Tryz.underlying24 rfl sz22 rfl rfl rfl) (by exact rfl) rfl), (by rintro H' m_ hH hm_ hu_ _ rfl; exact dn <| s_d (m_ 5) rfl (d_loado (v := v_b_1) ty22 rfl (.there .here) rfl rfl rfl rfl) (by exact rfl) rfl), (by rintro H' m_ hH hm_ hu_ _ rfl _ rfl; exact dn <| s_k (m_ 6) rfl (o_call co143 (vs := [v_a_1, v_b_1]) rfl (wide_minus.calls k hy27 ((h_a_1.mono hH).src) ((h_b_1.mono hH).src))) rfl (by rintro v_ H_ _ ⟨rfl, e_, h_⟩; exact ⟨rfl, e_, h_⟩)), (by rintro H' m_ hH hm_ hu_ _ rfl v30 (h31 : Ro kU32 H' v30 y26); exact dn <| s_k (m_ 7) rfl (o_call co115 (vs := [.bool a_0, v30]) rfl (wide_made.calls k hy33 h31)) rfl (by rintro v_ H_ _ ⟨rfl, e_, h_⟩; exact ⟨rfl, e_, h_⟩)), (by rintro H' m_ hH hm_ hu_ _ ⟨v36, rfl, h37⟩; exact dn <| s_d (m_ 8) rfl (d_ext (vs := [.agg ⟨[.bool y32.1.f_neg, v36]⟩, errV 104 y32.2]) rfl rfl) (by exact ⟨v36, rfl, h37⟩) rfl), (by rintro H' m_ hH hm_ hu_ _ ⟨v36, rfl, h37⟩; exact dn <| s_d (m_ 9) rfl (d_ext (vs := [.agg ⟨[.bool y32.1.f_neg, v36]⟩, errV 104 y32.2]) rfl rfl) (by exact rfl) rfl), trivial⟩ ?_
 intro H40 e41
 rintro _ _ rfl _ _ rfl _ _ rfl _ _ rfl _ _ rfl _ _ rfl v30 _ (h31 : Ro kU32 H40 v30 y26) _ _ ⟨v36, rfl, h37⟩ _ _ ⟨v38, rfl, h39⟩ _ _ rfl
 refine w_a0 rfl (o_store (v := .agg ⟨[.bool y32.1.f_neg, v38]⟩) sz24 rfl rfl rfl rfl (oc rfl (oc (h39.one) oz)) .here u2) ?_
 rintro _ _ _ ⟨rfl, rfl, rfl⟩
 refine wA (errV 104 y32.2) rfl rfl <| w_done ?_
 obtain rfl := sj he
 refine w_return fn_127 rs_127 (.box (v := .agg ⟨[.bool y32.1.f_neg, v38]⟩) rfl ty24 rfl rfl .here rfl (.tmp (v := errV 104 y32.2) rfl .nil)) <| ⟨⟨[_, _, _], rfl⟩, hle.trans e41, ⟨v38, rfl, h39⟩⟩
theorem wide_Int_Add.calls (k : Nat) {H : Hp} {L : Items} {a : wide_Int} {b : wide_Int} {v0_a : Value} {v1_b : Value} {r : wide_Int × (Option Int)} (he : wide_Int_Add.f k a b = some r) (h0_a : Ro kU32 H v0_a a.f_w) (h1_b : Ro kU32 H v1_b b.f_w) : Ct Tryz.prog 127 ⟨[.agg ⟨[.bool a.f_neg, v0_a]⟩, .agg ⟨[.bool b.f_neg, v1_b]⟩]⟩ H L (cR H L (wide_Int_Add.out r)) := by
 refine ct_out (O := wide_Int_Add.out r) ?_
 have hle : H.le H := .refl _
 unfold wide_Int_Add.f at he
 refine ct_enter (args := [.agg ⟨[.bool a.f_neg, v0_a]⟩, .agg ⟨[.bool b.f_neg, v1_b]⟩]) fn_127 rfl nt_127 rfl <| wR rfl <| w_a rfl (o_box (v := .agg ⟨[.bool a.f_neg, v0_a]⟩) rfl rfl) ?_
 rintro _ _ _ ⟨b1, rfl, rfl, rfl⟩
 refine w_a rfl (o_box (v := .agg ⟨[.bool b.f_neg, v1_b]⟩) rfl rfl) ?_
 rintro _ _ _ ⟨b2, rfl, rfl, rfl⟩
 refine w_a rfl (o_alloc zr24 rfl) ?_
 rintro _ _ _ ⟨b3, rfl, rfl, rfl⟩
 refine wA (errV 104 none) rfl rfl <| wE <| wR rfl <| w_d rfl (d_fld (o' := 0) Tryz.underlying24 rfl sz4 rfl rfl rfl) <| wL (.bool a.f_neg) ty4 rfl rfl (.there (.there .here)) rfl rfl <| w_d rfl (d_fld (o' := 0) Tryz.underlying24 rfl sz4 rfl rfl rfl) <| wL (.bool b.f_neg) ty4 rfl rfl (.there .here) rfl rfl <| w_d rfl (d_eqb (a := a.f_neg) (b := b.f_neg) Tryz.underlying4 rfl rfl) <| w_done ?_
 rcases its he with ⟨c4, he⟩ | ⟨c4, he⟩
 ·
  refine w_then rfl c4 <| w_seq ?_
  obtain ⟨y5, hy6, he⟩ := bs he
  obtain ⟨y11, hy12, he⟩ := bs he
  refine w_drawn (p := 10) (tl := [10, 11]) [[], [(0, some 11)], [], [(2, some 13)], [], [(4, some 15)], [(3, some 14), (5, some 16)], [(1, some 12), (6, some 17)], [(7, some 18)], [(7, some 18)]] [some 11, some 12, some 13, some 14, some 15, some 16, some 17, some 18, some 19, some 20] (fctF (.is (.pointer (some ⟨b1, 0, none⟩)) :: .is (.bool a.f_neg) :: .is (.pointer (some ⟨b1, 1, none⟩)) :: .is (v0_a) :: .is (.pointer (some ⟨b2, 1, none⟩)) :: .is (v1_b) :: .ro kU32 (y5) :: .of (wide_made.out y11) (wide_made.out_mono _) :: .of (fun H v => ∃ v17, v = .agg ⟨[.bool y11.1.f_neg, v17]⟩ ∧ Ro kU32 H v17 y11.1.f_w) (by rintro _ _ _ hle ⟨v17, rfl, h18⟩; exact ⟨v17, rfl, h18.mono hle⟩) :: .is (errV 104 y11.2) :: [])) (fun m_ => some (b3, .cells ⟨[.bool false, .slice none 0 0]⟩ 24 (0, 0)) :: some (b2, .cells ⟨[.bool b.f_neg, v1_b]⟩ 24 (0, 0)) :: some (b1, .cells ⟨[.bool a.f_neg, v0_a]⟩ 24 (0, 0)) :: L) (fun _ => none) mixed (by kernel_rfl) (by kernel_rfl) rfl (fct_mono (by kernel_rfl)) ⟨(fun H' m_ hH hm_ hu_ => dn <| s_d (m_ 0) rfl (d_fld (o' := 0) Tryz.underlying24 rfl sz4 rfl rfl rfl) (by exact rfl) rfl), (by rintro H' m_ hH hm_ hu_ _ rfl; exact dn <| s_d (m_ 1) rfl (d_loado (v := .bool a.f_neg) ty4 rfl (.there (.there .here)) rfl rfl rfl rfl) (by exact rfl) rfl), (fun H' m_ hH hm_ hu_ => dn <| s_d (m_ 2) rfl (d_fld (o' := 1) Tryz.underlying24 rfl sz22 rfl rfl rfl) (by exact rfl) rfl), (by rintro H' m_ hH hm_ hu_ _ rfl; exact dn <| s_d (m_ 3) rfl (d_loado (v := v0_a) ty22 rfl (.there (.there .here)) rfl rfl rfl rfl) (by exact rfl) rfl), (fun H' m_ hH hm_ hu_ => dn <| s_d (m_ 4) rfl (d_fld (o' := 1) Tryz.underlying24 rfl sz22 rfl rfl rfl) (by exact rfl) rfl), (by rintro H' m_ hH hm_ hu_ _ rfl; exact dn <| s_d (m_ 5) rfl (d_loado (v := v1_b) ty22 rfl (.there .here) rfl rfl rfl rfl) (by exact rfl) rfl), (by rintro H' m_ hH hm_ hu_ _ rfl _ rfl; exact dn <| s_k (m_ 6) rfl (o_call co144 (vs := [v0_a, v1_b]) rfl (wide_plus.calls k hy6 ((h0_a.mono hH).src) ((h1_b.mono hH).src))) rfl (by rintro v_ H_ _ ⟨rfl, e_, h_⟩; exact ⟨rfl, e_, h_⟩)), (by rintro H' m_ hH hm_ hu_ _ rfl v9 (h10 : Ro kU32 H' v9 y5); exact dn <| s_k (m_ 7) rfl (o_call co115 (vs := [.bool a.f_neg, v9]) rfl (wide_made.calls k hy12 h10)) rfl (by rintro v_ H_ _ ⟨rfl, e_, h_⟩; exact ⟨rfl, e_, h_⟩)), (by rintro H' m_ hH hm_ hu_ _ ⟨v15, rfl, h16⟩; exact dn <| s_d (m_ 8) rfl (d_ext (vs := [.agg ⟨[.bool y11.1.f_neg, v15]⟩, errV 104 y11.2]) rfl rfl) (by exact ⟨v15, rfl, h16⟩) rfl), (by rintro H' m_ hH hm_ hu_ _ ⟨v15, rfl, h16⟩; exact dn <| s_d (m_ 9) rfl (d_ext (vs := [.agg ⟨[.bool y11.1.f_neg, v15]⟩, errV 104 y11.2]) rfl rfl) (by exact rfl) rfl), trivial⟩ ?_
  intro H19 e20
  rintro _ _ rfl _ _ rfl _ _ rfl _ _ rfl _ _ rfl _ _ rfl v9 _ (h10 : Ro kU32 H19 v9 y5) _ _ ⟨v15, rfl, h16⟩ _ _ ⟨v17, rfl, h18⟩ _ _ rfl
  refine w_a0 rfl (o_store (v := .agg ⟨[.bool y11.1.f_neg, v17]⟩) sz24 rfl rfl rfl rfl (oc rfl (oc (h18.one) oz)) .here u2) ?_
  rintro _ _ _ ⟨rfl, rfl, rfl⟩
  refine wA (errV 104 y11.2) rfl rfl <| w_done ?_
  obtain rfl := sj he
  refine w_return fn_127 rs_127 (.box (v := .agg ⟨[.bool y11.1.f_neg, v17]⟩) rfl ty24 rfl rfl .here rfl (.tmp (v := errV 104 y11.2) rfl .nil)) <| ⟨⟨[_, _, _], rfl⟩, hle.trans e20, ⟨v17, rfl, h18⟩⟩
 ·
  refine w_else rfl (Bool.eq_false_iff.2 c4) <| w_skip <| w_seq <| wR rfl <| w_d rfl (d_fld (o' := 1) Tryz.underlying24 rfl sz22 rfl rfl rfl) <| wL v0_a ty22 rfl rfl (.there (.there .here)) rfl rfl <| w_d rfl (d_fld (o' := 1) Tryz.underlying24 rfl sz22 rfl rfl rfl) <| wL v1_b ty22 rfl rfl (.there .here) rfl rfl ?_
  obtain ⟨y21, hy22, he⟩ := bs he
  refine w_d rfl (call_d (o_call co137 (vs := [v0_a, v1_b]) rfl (wide_less.calls k hy22 h0_a.src h1_b.src))) <| w_d rfl (d_lss rfl rfl) <| w_done ?_
  rcases its he with ⟨c25, he⟩ | ⟨c25, he⟩
  ·
   refine w_then rfl (dt c25) <| w_region rfl <| wL (.agg ⟨[.bool b.f_neg, v1_b]⟩) ty24 rfl rfl (.there .here) rfl rfl <| wL (.agg ⟨[.bool a.f_neg, v0_a]⟩) ty24 rfl rfl (.there (.there .here)) rfl rfl <| w_a0 rfl (o_store (v := .agg ⟨[.bool b.f_neg, v1_b]⟩) sz24 rfl rfl rfl rfl (oc rfl (oc (h1_b.one) oz)) (.there (.there .here)) u2) ?_
   rintro _ _ _ ⟨rfl, rfl, rfl⟩
   refine w_a0 rfl (o_store (v := .agg ⟨[.bool a.f_neg, v0_a]⟩) sz24 rfl rfl rfl rfl (oc rfl (oc (h0_a.one) oz)) (.there .here) u2) ?_
   rintro _ _ _ ⟨rfl, rfl, rfl⟩
   refine w_done <| w_sl 2 (.pointer (some ⟨b1, 0, none⟩)) rfl <| w_sl 3 (.pointer (some ⟨b2, 0, none⟩)) rfl <| w_sl 4 (.pointer (some ⟨b3, 0, none⟩)) rfl <| w_sl 5 (errV 104 none) rfl <| wide_Int_Add.j1_ok (k := k) hle he h1_b h0_a
  ·
   refine w_else rfl (df c25) <| w_skip <| w_sl 2 (.pointer (some ⟨b1, 0, none⟩)) rfl <| w_sl 3 (.pointer (some ⟨b2, 0, none⟩)) rfl <| w_sl 4 (.pointer (some ⟨b3, 0, none⟩)) rfl <| w_sl 5 (errV 104 none) rfl <| wide_Int_Add.j1_ok (k := k) hle he h0_a h1_b
end Go.Proofs.YtkccpkccdbfomaaGreatDoor.GSH

/- printed by gen.py -/
import Derived.Test.YtlokgnjlnefbbaaDoorGRWt
namespace Go.Proofs.YtlokgnjlnefbbaaDoor.GRW
open Go Go.RowKit Go.Proofs.YtlokgnjlnefbbaaDoorK Go.Proofs.YtlokgnjlnefbbaaDoor
set_option maxRecDepth 100000
set_option maxHeartbeats 2000000
set_option linter.unusedVariables false
set_option linter.unusedSimpArgs false
noncomputable def cat062_Report_may.C : Code := (Tryd.f32.body).getD .skip
def cat062_Report_may.out (r : Bool) (H : Hp) (v : Value) : Prop := v = .bool r
noncomputable def cat062_Report_may.f (k : Nat) (r_ : cat062_Report) : Option Bool := some (((((((decide (0 ≤ r_.f_Time)) && (decide (r_.f_Time < 11059200))) && (decide ((-8388608) ≤ r_.f_X))) && (decide (r_.f_X < 8388608))) && (decide ((-8388608) ≤ r_.f_Y))) && (decide (r_.f_Y < 8388608))) && (decide (r_.f_State < 128)))
theorem cat062_Report_may.mono : ∀ k y0, LeO (cat062_Report_may.f k y0) (cat062_Report_may.f (k + 1) y0) := fun k _ => by unfold cat062_Report_may.f; exact (LeO.refl _)
theorem cat062_Report_may.calls (k : Nat) {H : Hp} {L : Items} {r_ : cat062_Report} {r : Bool} (he : cat062_Report_may.f k r_ = some r) : Ct Tryd.prog 32 ⟨[.agg ⟨[.int .u16 r_.f_ID, .int .i64 r_.f_Time, .int .i32 r_.f_X, .int .i32 r_.f_Y, .int .i16 r_.f_VX, .int .i16 r_.f_VY, .int .u8 r_.f_State]⟩]⟩ H L (fun v H' L' => L = L' ∧ H = H' ∧ v = .bool r) := by
 refine ct_outs (O := cat062_Report_may.out r) (fun _ _ h => h) ?_
 have hle : H.le H := .refl _
 unfold cat062_Report_may.f at he
 refine ct_enter (args := [.agg ⟨[.int .u16 r_.f_ID, .int .i64 r_.f_Time, .int .i32 r_.f_X, .int .i32 r_.f_Y, .int .i16 r_.f_VX, .int .i16 r_.f_VY, .int .u8 r_.f_State]⟩]) fn_32 rfl nt_32 rfl <| wR rfl <| w_a rfl (o_box (v := .agg ⟨[.int .u16 r_.f_ID, .int .i64 r_.f_Time, .int .i32 r_.f_X, .int .i32 r_.f_Y, .int .i16 r_.f_VX, .int .i16 r_.f_VY, .int .u8 r_.f_State]⟩) rfl rfl) ?_
 rintro _ _ _ ⟨b1, rfl, rfl, rfl⟩
 refine wA (.bool false) rfl rfl <| wQ rfl <| w_d rfl (d_fld (o' := 1) Tryd.underlying70 rfl sz2 rfl rfl rfl) <| wL (.int .i64 r_.f_Time) ty2 rfl rfl .here rfl rfl <| w_d rfl (d_geq rfl rfl) <| wM (.bool (decide (0 ≤ r_.f_Time))) rfl rfl <| w_g (g := decide (0 ≤ r_.f_Time)) rfl rfl rfl wn_t (fun g2 => d_fld (o' := 1) Tryd.underlying70 rfl sz2 rfl rfl rfl) <| w_g (g := decide (0 ≤ r_.f_Time)) rfl rfl rfl wn_t (fun g3 => d_loado (v := .int .i64 r_.f_Time) ty2 (cvt g3) .here rfl rfl rfl rfl) <| w_g (g := decide (0 ≤ r_.f_Time)) rfl rfl rfl wn_t (fun g4 => d_lss (cvt g4) rfl) <| w_d rfl (d_and' (b := (decide (0 ≤ r_.f_Time))) (p := (decide (r_.f_Time < 11059200))) rfl rfl rfl) ?_
 refine wM (.bool ((decide (0 ≤ r_.f_Time)) && (decide (r_.f_Time < 11059200)))) rfl rfl <| w_g (g := (decide (0 ≤ r_.f_Time)) && (decide (r_.f_Time < 11059200))) rfl rfl rfl wn_t (fun g5 => d_fld (o' := 2) Tryd.underlying70 rfl sz21 rfl rfl rfl) <| w_g (g := (decide (0 ≤ r_.f_Time)) && (decide (r_.f_Time < 11059200))) rfl rfl rfl wn_t (fun g6 => d_loado (v := .int .i32 r_.f_X) ty21 (cvt g6) .here rfl rfl rfl rfl) <| w_g (g := (decide (0 ≤ r_.f_Time)) && (decide (r_.f_Time < 11059200))) rfl rfl rfl wn_t (fun g7 => d_geq (cvt g7) rfl) <| w_d rfl (d_and' (b := ((decide (0 ≤ r_.f_Time)) && (decide (r_.f_Time < 11059200)))) (p := (decide ((-8388608) ≤ r_.f_X))) rfl rfl rfl) <| wM (.bool (((decide (0 ≤ r_.f_Time)) && (decide (r_.f_Time < 11059200))) && (decide ((-8388608) ≤ r_.f_X)))) rfl rfl <| w_g (g := ((decide (0 ≤ r_.f_Time)) && (decide (r_.f_Time < 11059200))) && (decide ((-8388608) ≤ r_.f_X))) rfl rfl rfl wn_t (fun g8 => d_fld (o' := 2) Tryd.underlying70 rfl sz21 rfl rfl rfl) <| w_g (g := ((decide (0 ≤ r_.f_Time)) && (decide (r_.f_Time < 11059200))) && (decide ((-8388608) ≤ r_.f_X))) rfl rfl rfl wn_t (fun g9 => d_loado (v := .int .i32 r_.f_X) ty21 (cvt g9) .here rfl rfl rfl rfl) <| w_g (g := ((decide (0 ≤ r_.f_Time)) && (decide (r_.f_Time < 11059200))) && (decide ((-8388608) ≤ r_.f_X))) rfl rfl rfl wn_t (fun g10 => d_lss (cvt g10) rfl) <| w_d rfl (d_and' (b := (((decide (0 ≤ r_.f_Time)) && (decide (r_.f_Time < 11059200))) && (decide ((-8388608) ≤ r_.f_X)))) (p := (decide (r_.f_X < 8388608))) rfl rfl rfl) <| wM (.bool ((((decide (0 ≤ r_.f_Time)) && (decide (r_.f_Time < 11059200))) && (decide ((-8388608) ≤ r_.f_X))) && (decide (r_.f_X < 8388608)))) rfl rfl <| w_g (g := (((decide (0 ≤ r_.f_Time)) && (decide (r_.f_Time < 11059200))) && (decide ((-8388608) ≤ r_.f_X))) && (decide (r_.f_X < 8388608))) rfl rfl rfl wn_t (fun g11 => d_fld (o' := 3) Tryd.underlying70 rfl sz21 rfl rfl rfl) ?_
 refine w_g (g := (((decide (0 ≤ r_.f_Time)) && (decide (r_.f_Time < 11059200))) && (decide ((-8388608) ≤ r_.f_X))) && (decide (r_.f_X < 8388608))) rfl rfl rfl wn_t (fun g12 => d_loado (v := .int .i32 r_.f_Y) ty21 (cvt g12) .here rfl rfl rfl rfl) <| w_g (g := (((decide (0 ≤ r_.f_Time)) && (decide (r_.f_Time < 11059200))) && (decide ((-8388608) ≤ r_.f_X))) && (decide (r_.f_X < 8388608))) rfl rfl rfl wn_t (fun g13 => d_geq (cvt g13) rfl) <| w_d rfl (d_and' (b := ((((decide (0 ≤ r_.f_Time)) && (decide (r_.f_Time < 11059200))) && (decide ((-8388608) ≤ r_.f_X))) && (decide (r_.f_X < 8388608)))) (p := (decide ((-8388608) ≤ r_.f_Y))) rfl rfl rfl) <| wM (.bool (((((decide (0 ≤ r_.f_Time)) && (decide (r_.f_Time < 11059200))) && (decide ((-8388608) ≤ r_.f_X))) && (decide (r_.f_X < 8388608))) && (decide ((-8388608) ≤ r_.f_Y)))) rfl rfl <| w_g (g := ((((decide (0 ≤ r_.f_Time)) && (decide (r_.f_Time < 11059200))) && (decide ((-8388608) ≤ r_.f_X))) && (decide (r_.f_X < 8388608))) && (decide ((-8388608) ≤ r_.f_Y))) rfl rfl rfl wn_t (fun g14 => d_fld (o' := 3) Tryd.underlying70 rfl sz21 rfl rfl rfl) <| w_g (g := ((((decide (0 ≤ r_.f_Time)) && (decide (r_.f_Time < 11059200))) && (decide ((-8388608) ≤ r_.f_X))) && (decide (r_.f_X < 8388608))) && (decide ((-8388608) ≤ r_.f_Y))) rfl rfl rfl wn_t (fun g15 => d_loado (v := .int .i32 r_.f_Y) ty21 (cvt g15) .here rfl rfl rfl rfl) <| w_g (g := ((((decide (0 ≤ r_.f_Time)) && (decide (r_.f_Time < 11059200))) && (decide ((-8388608) ≤ r_.f_X))) && (decide (r_.f_X < 8388608))) && (decide ((-8388608) ≤ r_.f_Y))) rfl rfl rfl wn_t (fun g16 => d_lss (cvt g16) rfl) <| w_d rfl (d_and' (b := (((((decide (0 ≤ r_.f_Time)) && (decide (r_.f_Time < 11059200))) && (decide ((-8388608) ≤ r_.f_X))) && (decide (r_.f_X < 8388608))) && (decide ((-8388608) ≤ r_.f_Y)))) (p := (decide (r_.f_Y < 8388608))) rfl rfl rfl) <| wM (.bool ((((((decide (0 ≤ r_.f_Time)) && (decide (r_.f_Time < 11059200))) && (decide ((-8388608) ≤ r_.f_X))) && (decide (r_.f_X < 8388608))) && (decide ((-8388608) ≤ r_.f_Y))) && (decide (r_.f_Y < 8388608)))) rfl rfl <| w_g (g := (((((decide (0 ≤ r_.f_Time)) && (decide (r_.f_Time < 11059200))) && (decide ((-8388608) ≤ r_.f_X))) && (decide (r_.f_X < 8388608))) && (decide ((-8388608) ≤ r_.f_Y))) && (decide (r_.f_Y < 8388608))) rfl rfl rfl wn_t (fun g17 => d_fld (o' := 6) Tryd.underlying70 rfl sz5 rfl rfl rfl) <| w_g (g := (((((decide (0 ≤ r_.f_Time)) && (decide (r_.f_Time < 11059200))) && (decide ((-8388608) ≤ r_.f_X))) && (decide (r_.f_X < 8388608))) && (decide ((-8388608) ≤ r_.f_Y))) && (decide (r_.f_Y < 8388608))) rfl rfl rfl wn_t (fun g18 => d_loado (v := .int .u8 r_.f_State) ty5 (cvt g18) .here rfl rfl rfl rfl) <| w_g (g := (((((decide (0 ≤ r_.f_Time)) && (decide (r_.f_Time < 11059200))) && (decide ((-8388608) ≤ r_.f_X))) && (decide (r_.f_X < 8388608))) && (decide ((-8388608) ≤ r_.f_Y))) && (decide (r_.f_Y < 8388608))) rfl rfl rfl wn_t (fun g19 => d_lss (cvt g19) rfl) ?_
 refine w_d rfl (d_and' (b := ((((((decide (0 ≤ r_.f_Time)) && (decide (r_.f_Time < 11059200))) && (decide ((-8388608) ≤ r_.f_X))) && (decide (r_.f_X < 8388608))) && (decide ((-8388608) ≤ r_.f_Y))) && (decide (r_.f_Y < 8388608)))) (p := (decide (r_.f_State < 128))) rfl rfl rfl) <| wA (.bool (((((((decide (0 ≤ r_.f_Time)) && (decide (r_.f_Time < 11059200))) && (decide ((-8388608) ≤ r_.f_X))) && (decide (r_.f_X < 8388608))) && (decide ((-8388608) ≤ r_.f_Y))) && (decide (r_.f_Y < 8388608))) && (decide (r_.f_State < 128)))) rfl rfl <| w_done ?_
 obtain rfl := sj he
 refine w_return fn_32 rs_32 (.tmp (v := .bool (((((((decide (0 ≤ r_.f_Time)) && (decide (r_.f_Time < 11059200))) && (decide ((-8388608) ≤ r_.f_X))) && (decide (r_.f_X < 8388608))) && (decide ((-8388608) ≤ r_.f_Y))) && (decide (r_.f_Y < 8388608))) && (decide (r_.f_State < 128)))) rfl .nil) <| ⟨⟨[_], rfl⟩, hle, rfl⟩
noncomputable def cat062_lay.C : Code := (Tryd.f33.body).getD .skip
abbrev cat062_lay.out (r : (List Int)) (H : Hp) (v : Value) : Prop := Ro kU8 H v r
abbrev cat062_lay.R (H0 : Hp) (L : Items) (r : (List Int)) : Value → Hp → Items → Prop := fun v H' L' => (∃ p it, L' = p ++ it :: L ∧ Sl kU8 H' 5 it v r) ∧ H0.le H'
structure cat062_lay.Hs where
 l0 : (List Int) → Int → Int → Option (List Int)
noncomputable def cat062_lay.b0 (k : Nat) (h : cat062_lay.Hs)  (b : List Int) (n : Int) (i : Int) : Option (List Int) := if 0 ≤ i then (if 0 ≤ (w64 (8 * i)) then (if b.length + 1 ≤ 140737488355200 then (h.l0 (b ++ [(n / 2 ^ shn .i64 (w64 (8 * i))) % 256]) n (w64 (i - 1))) else none) else none) else (some (b))
noncomputable def cat062_lay.hs : Nat → cat062_lay.Hs
 | 0 => ⟨fun _ _ _ => none⟩
 | k + 1 => ⟨fun x0 x1 x2 => cat062_lay.b0 k (cat062_lay.hs k) x0 x1 x2⟩
noncomputable def cat062_lay.f (k : Nat) (b : List Int) (n : Int) (bytes : Int) : Option (List Int) := (fun h : cat062_lay.Hs => h.l0 b n (w64 (bytes - 1))) (cat062_lay.hs k)
structure cat062_lay.LE (h h' : cat062_lay.Hs) : Prop where
 l0 : ∀ y0 y1 y2, LeO (h.l0 y0 y1 y2) (h'.l0 y0 y1 y2)
theorem cat062_lay.b0_mono {k : Nat} {h h' : cat062_lay.Hs} (hl : cat062_lay.LE h h') : ∀ y0 y1 y2, LeO (cat062_lay.b0 k h y0 y1 y2) (cat062_lay.b0 (k + 1) h' y0 y1 y2) := fun _ _ _ => (LeO.ite (LeO.ite (LeO.ite (hl.l0 _ _ _) (LeO.refl _)) (LeO.refl _)) (LeO.refl _))
theorem cat062_lay.hs_mono : ∀ k, cat062_lay.LE (cat062_lay.hs k) (cat062_lay.hs (k + 1))
 | 0 => ⟨fun _ _ _ => LeO.none _⟩
 | k + 1 => ⟨cat062_lay.b0_mono (k := k) (cat062_lay.hs_mono k)⟩
theorem cat062_lay.mono : ∀ k y0 y1 y2, LeO (cat062_lay.f k y0 y1 y2) (cat062_lay.f (k + 1) y0 y1 y2) := fun k _ _ _ => have hl := cat062_lay.hs_mono k; by unfold cat062_lay.f; exact (hl.l0 _ _ _)
noncomputable def cat062_lay.Kl0 : List Item := .code (lopB (blkB (seqR (seqL (seqR cat062_lay.C))))) :: .inLoop (lopB (blkB (seqR (seqL (seqR cat062_lay.C))))) :: .inBlock 0 :: .code (seqR (seqR cat062_lay.C)) :: []
structure cat062_lay.OK (h : cat062_lay.Hs) : Prop where
 l0 : ∀ {H0 H : Hp} {L : Items} {r : (List Int)} {jk_ : Nat → Value} {b : List Int} {n : Int} {i : Int} {v_b : Value} {i_b : Item'} (_ : H0.le H) (_he : h.l0 b n i = some r) (_h_b : Sl kU8 H 5 i_b v_b b), Wp Tryd.prog 33 23 cat062_lay.Kl0 (upd (upd (upd (upd jk_ 0 (v_b)) 1 (.int .i64 n)) 6 (.slice none 0 0)) 7 (.int .i64 i)) H (i_b :: L) (cat062_lay.R H0 L r)
theorem cat062_lay.b0_ok {k : Nat} {h : cat062_lay.Hs} (hh : cat062_lay.OK h) {H0 H : Hp} {L : Items} {r : (List Int)} {jk_ : Nat → Value} {b : List Int} {n : Int} {i : Int} {v_b : Value} {i_b : Item'} (hle : H0.le H) (he : cat062_lay.b0 k h b n i = some r) (h_b : Sl kU8 H 5 i_b v_b b) : Wp Tryd.prog 33 23 cat062_lay.Kl0 (upd (upd (upd (upd jk_ 0 (v_b)) 1 (.int .i64 n)) 6 (.slice none 0 0)) 7 (.int .i64 i)) H (i_b :: L) (cat062_lay.R H0 L r) := by
 unfold cat062_lay.b0 at he
 unfold cat062_lay.Kl0
 refine w_seq <| wR rfl <| wM (.int .i64 i) rfl rfl <| w_d rfl (d_geq rfl rfl) <| w_done ?_
 rcases its he with ⟨c1, he⟩ | ⟨c1, he⟩
 ·
  refine w_then rfl (dt c1) <| w_skip <| w_seq <| w_block <| w_region rfl <| wM v_b rfl rfl <| wM (.int .i64 n) rfl rfl <| wM (.int .i64 i) rfl rfl <| w_d rfl (d_mul (c := w64 (8 * i)) rfl rfl rfl) ?_
  obtain ⟨c2, he⟩ := rq he
  refine w_d rfl (d_shr (c := n / 2 ^ shn .i64 (w64 (8 * i))) rfl rfl c2 rfl) <| w_d rfl (d_conv (c := (n / 2 ^ shn .i64 (w64 (8 * i))) % 256) Tryd.underlying2 Tryd.underlying5 rfl rfl) <| w_a rfl (o_buildSlice' (kd := kU8) (css := [[.int .u8 ((n / 2 ^ shn .i64 (w64 (8 * i))) % 256)]]) (xs := [(n / 2 ^ shn .i64 (w64 (8 * i))) % 256]) (parts := [(0, .int .u8 ((n / 2 ^ shn .i64 (w64 (8 * i))) % 256))]) Tryd.underlying26 ti5 rfl ⟨_, _, rfl, rfl, rfl⟩ ⟨rfl, trivial⟩ rfl (by decide)) ?_
  rintro v3 _ _ ⟨i4, rfl, rfl, h5⟩
  obtain ⟨c6, he⟩ := rq he
  refine w_a rfl (o_append' (kd := kU8) (F := fun z_ => i4 :: z_ :: L) Tryd.underlying26 Tryd.underlying26 ti5 rfl (by first | omega | (simp only [List.nil_append, List.length_cons, List.length_nil]; omega)) rfl rfl h_b (h5.src .here) (fun _ => (.there .here))) ?_
  rintro v7 _ _ ⟨i8, rfl, rfl, h9⟩
  refine wA v7 rfl rfl <| w_done <| w_inBlock <| w_region rfl <| wM (.int .i64 i) rfl rfl <| w_d rfl (d_sub (c := w64 (i - 1)) rfl rfl rfl) <| wA (.int .i64 (w64 (i - 1))) rfl rfl <| w_done <| w_inLoop <| w_del .here <| w_sl 0 (v7) rfl <| w_sl 1 (.int .i64 n) rfl ?_
  refine w_sl 6 (.slice none 0 0) rfl <| w_sl 7 (.int .i64 (w64 (i - 1))) rfl <| hh.l0 hle he h9
 ·
  refine w_else rfl (df c1) <| w_exit rfl <| wR rfl <| wM v_b rfl rfl <| wA v_b rfl rfl <| w_done ?_
  obtain rfl := sj he
  refine w_return fn_33 rs_33 (.tmp (v := v_b) rfl .nil) <| ⟨⟨[], _, rfl, h_b⟩, hle⟩
theorem cat062_lay.ok : ∀ k, cat062_lay.OK (cat062_lay.hs k)
 | 0 => ⟨(by intros; exact nomatch (show none = some _ from by assumption))⟩
 | k + 1 => ⟨cat062_lay.b0_ok (k := k) (cat062_lay.ok k)⟩
theorem cat062_lay.calls (k : Nat) {H : Hp} {L : Items} {b : List Int} {n : Int} {bytes : Int} {v0_b : Value} {i0_b : Item'} {r : (List Int)} (he : cat062_lay.f k b n bytes = some r) (h0_b : Sl kU8 H 5 i0_b v0_b b) : Ct Tryd.prog 33 ⟨[v0_b, .int .i64 n, .int .i64 bytes]⟩ H (i0_b :: L) (fun v H' L' => ∃ it, L' = it :: L ∧ H.le H' ∧ Sl kU8 H' 5 it v r) := by
 refine ct_own2 ?_
 have hle : H.le H := .refl _
 have hh := cat062_lay.ok k
 unfold cat062_lay.f at he
 refine ct_enter (args := [v0_b, .int .i64 n, .int .i64 bytes]) fn_33 rfl nt_33 rfl <| wR rfl <| wA (.slice none 0 0) rfl rfl <| wE <| wR rfl <| wM (.int .i64 bytes) rfl rfl <| w_d rfl (d_sub (c := w64 (bytes - 1)) rfl rfl rfl) <| wA (.int .i64 (w64 (bytes - 1))) rfl rfl <| w_done ?_
 refine w_block <| w_loop <| w_sl 0 (v0_b) rfl <| w_sl 1 (.int .i64 n) rfl <| w_sl 6 (.slice none 0 0) rfl <| w_sl 7 (.int .i64 (w64 (bytes - 1))) rfl <| hh.l0 hle he h0_b
noncomputable def fspec_Encode.C : Code := (Tryd.f18.body).getD .skip
def fspec_Encode.out (r : (List Int) × (Option Int)) (H : Hp) (v : Value) : Prop := ∃ v0, v = .tuple ⟨[v0, errV 73 r.2]⟩ ∧ Ro kU8 H v0 r.1
theorem fspec_Encode.out_mono (r : (List Int) × (Option Int)) {H H' : Hp} {v : Value} (hle : H.le H') (h : fspec_Encode.out r H v) : fspec_Encode.out r H' v := by
 obtain ⟨v0, rfl, h0⟩ := h; exact ⟨v0, rfl, h0.mono hle⟩
abbrev fspec_Encode.R (H0 : Hp) (L : Items) (r : (List Int) × (Option Int)) := fR H0 L (fspec_Encode.out r)
structure fspec_Encode.Hs where
 l0 : (List Int) → (List Int) → (Option Int) → Int → (List Int) → Int → Int → Option ((List Int) × (Option Int))
 l1 : (List Int) → (List Int) → (Option Int) → (List Int) → Int → Int → Option ((List Int) × (Option Int))
 l2 : (List Int) → (Option Int) → (List Int) → (List Int) → Int → Int → Option ((List Int) × (Option Int))
noncomputable def fspec_Encode.b0 (k : Nat) (h : fspec_Encode.Hs)  (l : List Int) (t2 : List Int) (t3 : Option Int) (last : Int) (t15 : List Int) (t16 : Int) (t17 : Int) : Option ((List Int) × (Option Int)) := if t17 < t16 then (if (0 : Int) ≤ t17 ∧ t17 < (t15.length : Int) then (if ((decide ((rd t15 t17) ≤ last)) || (decide (56 < (rd t15 t17)))) = true then (some ([], some 1)) else (h.l0 l t2 t3 (rd t15 t17) t15 t16 (w64 (t17 + 1)))) else none) else (if 0 ≤ w64 (Int.tdiv (w64 ((w64 (last + 7)) - 1)) 7) ∧ w64 (Int.tdiv (w64 ((w64 (last + 7)) - 1)) 7) ≤ 281474976710656 then (if (0 : Int) ≤ 0 ∧ (0 : Int) ≤ w64 (((List.replicate (w64 (Int.tdiv (w64 ((w64 (last + 7)) - 1)) 7) : Int).toNat (0 : Int)).length : Int) - 1) ∧ w64 (((List.replicate (w64 (Int.tdiv (w64 ((w64 (last + 7)) - 1)) 7) : Int).toNat (0 : Int)).length : Int) - 1) ≤ ((List.replicate (w64 (Int.tdiv (w64 ((w64 (last + 7)) - 1)) 7) : Int).toNat (0 : Int)).length : Int) then (h.l1 l t2 t3 (List.replicate (w64 (Int.tdiv (w64 ((w64 (last + 7)) - 1)) 7) : Int).toNat (0 : Int)) ((w64 (((List.replicate (w64 (Int.tdiv (w64 ((w64 (last + 7)) - 1)) 7) : Int).toNat (0 : Int)).length : Int) - 1)) - 0) 0) else none) else none)
noncomputable def fspec_Encode.b1 (k : Nat) (h : fspec_Encode.Hs)  (l : List Int) (t2 : List Int) (t3 : Option Int) (out : List Int) (t41 : Int) (t42 : Int) : Option ((List Int) × (Option Int)) := if t42 < t41 then (if (0 : Int) ≤ t42 ∧ t42 < (out.length : Int) then (h.l1 l t2 t3 (out.set (t42 : Int).toNat 1) t41 (w64 (t42 + 1))) else none) else (h.l2 t2 t3 out l (l.length : Int) 0)
noncomputable def fspec_Encode.b2 (k : Nat) (h : fspec_Encode.Hs)  (t2 : List Int) (t3 : Option Int) (out : List Int) (t49 : List Int) (t50 : Int) (t51 : Int) : Option ((List Int) × (Option Int)) := if t51 < t50 then (if (0 : Int) ≤ t51 ∧ t51 < (t49.length : Int) then (if (0 : Int) ≤ w64 (Int.tdiv (w64 ((rd t49 t51) - 1)) 7) ∧ w64 (Int.tdiv (w64 ((rd t49 t51) - 1)) 7) < (out.length : Int) then (if 0 ≤ (Int.tmod (w64 ((rd t49 t51) - 1)) 7) then (if (0 : Int) ≤ w64 (Int.tdiv (w64 ((rd t49 t51) - 1)) 7) ∧ w64 (Int.tdiv (w64 ((rd t49 t51) - 1)) 7) < (out.length : Int) then (h.l2 t2 t3 (out.set (w64 (Int.tdiv (w64 ((rd t49 t51) - 1)) 7) : Int).toNat (ior .u8 (rd out (w64 (Int.tdiv (w64 ((rd t49 t51) - 1)) 7))) (128 / 2 ^ shn .u8 (Int.tmod (w64 ((rd t49 t51) - 1)) 7)))) t49 t50 (w64 (t51 + 1))) else none) else none) else none) else none) else (some (out, none))
noncomputable def fspec_Encode.hs : Nat → fspec_Encode.Hs
 | 0 => ⟨fun _ _ _ _ _ _ _ => none, fun _ _ _ _ _ _ => none, fun _ _ _ _ _ _ => none⟩
 | k + 1 => ⟨fun x0 x1 x2 x3 x4 x5 x6 => fspec_Encode.b0 k (fspec_Encode.hs k) x0 x1 x2 x3 x4 x5 x6, fun x0 x1 x2 x3 x4 x5 => fspec_Encode.b1 k (fspec_Encode.hs k) x0 x1 x2 x3 x4 x5, fun x0 x1 x2 x3 x4 x5 => fspec_Encode.b2 k (fspec_Encode.hs k) x0 x1 x2 x3 x4 x5⟩
noncomputable def fspec_Encode.f (k : Nat) (l : List Int) : Option ((List Int) × (Option Int)) := (fun h : fspec_Encode.Hs => if (l.length : Int) = 0 then (some ([], some 1)) else (h.l0 l [] none 0 l (l.length : Int) 0)) (fspec_Encode.hs k)
structure fspec_Encode.LE (h h' : fspec_Encode.Hs) : Prop where
 l0 : ∀ y0 y1 y2 y3 y4 y5 y6, LeO (h.l0 y0 y1 y2 y3 y4 y5 y6) (h'.l0 y0 y1 y2 y3 y4 y5 y6)
 l1 : ∀ y0 y1 y2 y3 y4 y5, LeO (h.l1 y0 y1 y2 y3 y4 y5) (h'.l1 y0 y1 y2 y3 y4 y5)
 l2 : ∀ y0 y1 y2 y3 y4 y5, LeO (h.l2 y0 y1 y2 y3 y4 y5) (h'.l2 y0 y1 y2 y3 y4 y5)
theorem fspec_Encode.b0_mono {k : Nat} {h h' : fspec_Encode.Hs} (hl : fspec_Encode.LE h h') : ∀ y0 y1 y2 y3 y4 y5 y6, LeO (fspec_Encode.b0 k h y0 y1 y2 y3 y4 y5 y6) (fspec_Encode.b0 (k + 1) h' y0 y1 y2 y3 y4 y5 y6) := fun _ _ _ _ _ _ _ => (LeO.ite (LeO.ite (LeO.ite (LeO.refl _) (hl.l0 _ _ _ _ _ _ _)) (LeO.refl _)) (LeO.ite (LeO.ite (hl.l1 _ _ _ _ _ _) (LeO.refl _)) (LeO.refl _)))
theorem fspec_Encode.b1_mono {k : Nat} {h h' : fspec_Encode.Hs} (hl : fspec_Encode.LE h h') : ∀ y0 y1 y2 y3 y4 y5, LeO (fspec_Encode.b1 k h y0 y1 y2 y3 y4 y5) (fspec_Encode.b1 (k + 1) h' y0 y1 y2 y3 y4 y5) := fun _ _ _ _ _ _ => (LeO.ite (LeO.ite (hl.l1 _ _ _ _ _ _) (LeO.refl _)) (hl.l2 _ _ _ _ _ _))
theorem fspec_Encode.b2_mono {k : Nat} {h h' : fspec_Encode.Hs} (hl : fspec_Encode.LE h h') : ∀ y0 y1 y2 y3 y4 y5, LeO (fspec_Encode.b2 k h y0 y1 y2 y3 y4 y5) (fspec_Encode.b2 (k + 1) h' y0 y1 y2 y3 y4 y5) := fun _ _ _ _ _ _ => (LeO.ite (LeO.ite (LeO.ite (LeO.ite (LeO.ite (hl.l2 _ _ _ _ _ _) (LeO.refl _)) (LeO.refl _)) (LeO.refl _)) (LeO.refl _)) (LeO.refl _))
theorem fspec_Encode.hs_mono : ∀ k, fspec_Encode.LE (fspec_Encode.hs k) (fspec_Encode.hs (k + 1))
 | 0 => ⟨fun _ _ _ _ _ _ _ => LeO.none _, fun _ _ _ _ _ _ => LeO.none _, fun _ _ _ _ _ _ => LeO.none _⟩
 | k + 1 => ⟨fspec_Encode.b0_mono (k := k) (fspec_Encode.hs_mono k), fspec_Encode.b1_mono (k := k) (fspec_Encode.hs_mono k), fspec_Encode.b2_mono (k := k) (fspec_Encode.hs_mono k)⟩
theorem fspec_Encode.mono : ∀ k y0, LeO (fspec_Encode.f k y0) (fspec_Encode.f (k + 1) y0) := fun k _ => have hl := fspec_Encode.hs_mono k; by unfold fspec_Encode.f; exact (LeO.ite (LeO.refl _) (hl.l0 _ _ _ _ _ _ _))
noncomputable def fspec_Encode.Kl0 : List Item := .code (lopB (blkB (seqR (seqL (seqR (seqR (seqR fspec_Encode.C))))))) :: .inLoop (lopB (blkB (seqR (seqL (seqR (seqR (seqR fspec_Encode.C))))))) :: .inBlock 0 :: .code (seqR (seqR (seqR (seqR fspec_Encode.C)))) :: []
noncomputable def fspec_Encode.Kl1 : List Item := .code (lopB (blkB (seqR (seqL (seqR (seqR (seqR (seqR (seqR fspec_Encode.C))))))))) :: .inLoop (lopB (blkB (seqR (seqL (seqR (seqR (seqR (seqR (seqR fspec_Encode.C))))))))) :: .inBlock 2 :: .code (seqR (seqR (seqR (seqR (seqR (seqR fspec_Encode.C)))))) :: []
noncomputable def fspec_Encode.Kl2 : List Item := .code (lopB (blkB (seqR (seqL (seqR (seqR (seqR (seqR (seqR (seqR fspec_Encode.C)))))))))) :: .inLoop (lopB (blkB (seqR (seqL (seqR (seqR (seqR (seqR (seqR (seqR fspec_Encode.C)))))))))) :: .inBlock 4 :: .code (seqR (seqR (seqR (seqR (seqR (seqR (seqR fspec_Encode.C))))))) :: []
structure fspec_Encode.OK (h : fspec_Encode.Hs) : Prop where
 l0 : ∀ {H0 H : Hp} {L : Items} {r : (List Int) × (Option Int)} {jk_ : Nat → Value} {l : List Int} {t2 : List Int} {t3 : Option Int} {last : Int} {t15 : List Int} {t16 : Int} {t17 : Int} {v_l : Value} {v_t2 : Value} {v_t15 : Value} (_ : H0.le H) (_he : h.l0 l t2 t3 last t15 t16 t17 = some r) (_h_l : Src kI64 H L v_l l) (_h_t2 : Ro kU8 H v_t2 t2) (_h_t15 : Src kI64 H L v_t15 t15), Wp Tryd.prog 18 69 fspec_Encode.Kl0 (upd (upd (upd (upd (upd (upd (upd jk_ 0 (v_l)) 2 (v_t2)) 3 (errV 73 t3)) 4 (.int .i64 last)) 15 (v_t15)) 16 (.int .i64 t16)) 17 (.int .i64 t17)) H (L) (fspec_Encode.R H0 L r)
 l1 : ∀ {H0 H : Hp} {L : Items} {r : (List Int) × (Option Int)} {jk_ : Nat → Value} {l : List Int} {t2 : List Int} {t3 : Option Int} {out : List Int} {t41 : Int} {t42 : Int} {v_l : Value} {v_t2 : Value} {v_out : Value} {i_out : Item'} (_ : H0.le H) (_he : h.l1 l t2 t3 out t41 t42 = some r) (_h_l : Src kI64 H L v_l l) (_h_t2 : Ro kU8 H v_t2 t2) (_h_out : Sl kU8 H 5 i_out v_out out), Wp Tryd.prog 18 69 fspec_Encode.Kl1 (upd (upd (upd (upd (upd (upd jk_ 0 (v_l)) 2 (v_t2)) 3 (errV 73 t3)) 7 (v_out)) 41 (.int .i64 t41)) 42 (.int .i64 t42)) H (i_out :: L) (fspec_Encode.R H0 L r)
 l2 : ∀ {H0 H : Hp} {L : Items} {r : (List Int) × (Option Int)} {jk_ : Nat → Value} {t2 : List Int} {t3 : Option Int} {out : List Int} {t49 : List Int} {t50 : Int} {t51 : Int} {v_t2 : Value} {v_out : Value} {v_t49 : Value} {i_out : Item'} (_ : H0.le H) (_he : h.l2 t2 t3 out t49 t50 t51 = some r) (_h_t2 : Ro kU8 H v_t2 t2) (_h_out : Sl kU8 H 5 i_out v_out out) (_h_t49 : Src kI64 H L v_t49 t49), Wp Tryd.prog 18 69 fspec_Encode.Kl2 (upd (upd (upd (upd (upd (upd jk_ 2 (v_t2)) 3 (errV 73 t3)) 7 (v_out)) 49 (v_t49)) 50 (.int .i64 t50)) 51 (.int .i64 t51)) H (i_out :: L) (fspec_Encode.R H0 L r)
theorem fspec_Encode.b0_ok {k : Nat} {h : fspec_Encode.Hs} (hh : fspec_Encode.OK h) {H0 H : Hp} {L : Items} {r : (List Int) × (Option Int)} {jk_ : Nat → Value} {l : List Int} {t2 : List Int} {t3 : Option Int} {last : Int} {t15 : List Int} {t16 : Int} {t17 : Int} {v_l : Value} {v_t2 : Value} {v_t15 : Value} (hle : H0.le H) (he : fspec_Encode.b0 k h l t2 t3 last t15 t16 t17 = some r) (h_l : Src kI64 H L v_l l) (h_t2 : Ro kU8 H v_t2 t2) (h_t15 : Src kI64 H L v_t15 t15) : Wp Tryd.prog 18 69 fspec_Encode.Kl0 (upd (upd (upd (upd (upd (upd (upd jk_ 0 (v_l)) 2 (v_t2)) 3 (errV 73 t3)) 4 (.int .i64 last)) 15 (v_t15)) 16 (.int .i64 t16)) 17 (.int .i64 t17)) H (L) (fspec_Encode.R H0 L r) := by
 unfold fspec_Encode.b0 at he
 unfold fspec_Encode.Kl0
 refine wR rfl <| w_d rfl (d_lss rfl rfl) <| wE ?_
 rcases its he with ⟨c2, he⟩ | ⟨c2, he⟩
 ·
  refine w_then rfl (dt c2) <| w_skip <| w_seq <| w_block <| wR rfl ?_
  obtain ⟨c3, he⟩ := rq he
  refine w_d rfl (d_index (sz := 1) Tryd.underlying41 sz3 rfl h_t15 rfl c3) <| w_d rfl (d_ldint ty3 rfl h_t15 c3) <| wA (.int .i64 (rd t15 t17)) rfl rfl <| wE <| wR rfl <| wM (.int .i64 (rd t15 t17)) rfl rfl <| wM (.int .i64 last) rfl rfl <| w_d rfl (d_leq rfl rfl) <| wM (.bool (decide ((rd t15 t17) ≤ last))) rfl rfl <| w_g (g := !(decide ((rd t15 t17) ≤ last))) rfl rfl rfl wn_f (fun g4 => d_move (v := .int .i64 (rd t15 t17)) rfl) ?_
  refine w_g (g := !(decide ((rd t15 t17) ≤ last))) rfl rfl rfl wn_f (fun g5 => d_gtr (cvt g5) rfl) <| w_d rfl (d_or' (b := (decide ((rd t15 t17) ≤ last))) (p := (decide (56 < (rd t15 t17)))) rfl rfl rfl) <| w_done ?_
  rcases its he with ⟨c6, he⟩ | ⟨c6, he⟩
  ·
   refine w_then rfl c6 <| wR rfl <| w_d rfl (d_iface (v := .int .i64 1) Tryd.underlying73 rfl rfl) <| wA (.slice none 0 0) rfl rfl <| wA (errV 73 (some 1)) rfl rfl <| w_done ?_
   obtain rfl := sj he
   refine w_return fn_18 rs_18 (.tmp (v := .slice none 0 0) rfl (.tmp (v := errV 73 (some 1)) rfl .nil)) <| ⟨⟨[], rfl⟩, hle, ⟨.slice none 0 0, rfl, (ro_nil _ _)⟩⟩
  ·
   refine w_else rfl (Bool.eq_false_iff.2 c6) <| w_skip <| w_region rfl <| wM (.int .i64 (rd t15 t17)) rfl rfl <| wA (.int .i64 (rd t15 t17)) rfl rfl <| w_done <| w_inBlock <| w_region rfl <| w_d rfl (d_add (c := w64 (t17 + 1)) rfl rfl rfl) <| wM (.int .i64 (w64 (t17 + 1))) rfl rfl <| w_done <| w_inLoop ?_
   refine w_sl 0 (v_l) rfl <| w_sl 2 (v_t2) rfl <| w_sl 3 (errV 73 t3) rfl <| w_sl 4 (.int .i64 (rd t15 t17)) rfl <| w_sl 15 (v_t15) rfl <| w_sl 16 (.int .i64 t16) rfl <| w_sl 17 (.int .i64 (w64 (t17 + 1))) rfl <| hh.l0 hle he h_l h_t2 h_t15
 ·
  refine w_else rfl (df c2) <| w_exit rfl <| wR rfl <| wM (.int .i64 last) rfl rfl <| w_d rfl (d_add (c := w64 (last + 7)) rfl rfl rfl) <| w_d rfl (d_sub (c := w64 ((w64 (last + 7)) - 1)) rfl rfl rfl) <| w_d rfl (d_quo (c := w64 (Int.tdiv (w64 ((w64 (last + 7)) - 1)) 7)) rfl rfl (by decide) rfl) ?_
  obtain ⟨c7, he⟩ := rq he
  refine w_a rfl (o_make' (kd := kU8) (z0 := 0) Tryd.underlying26 ti5 (zp5 _) rfl rfl (by omega) (by omega) (by omega)) ?_
  rintro v8 _ _ ⟨i9, rfl, rfl, h10⟩
  refine wA v8 rfl rfl <| wE <| wR rfl <| wM v8 rfl rfl <| wM v8 rfl rfl <| w_d rfl (d_lenS Tryd.underlying26 rfl h10.shp) <| w_d rfl (d_sub (c := w64 (((List.replicate (w64 (Int.tdiv (w64 ((w64 (last + 7)) - 1)) 7) : Int).toNat (0 : Int)).length : Int) - 1)) rfl rfl rfl) ?_
  obtain ⟨c11, he⟩ := rq he
  refine w_a rfl (o_cutl (kd := kU8) Tryd.underlying26 sz5 rfl (h10.src .here) (.inl ⟨rfl, rfl⟩) (.inr ⟨_, _, rfl, rfl⟩) c11) ?_
  rintro v12 _ _ ⟨h13, rfl, rfl⟩
  refine w_d rfl (d_lenl Tryd.underlying26 rfl h13) <| wM (.int .i64 0) rfl rfl <| w_done <| w_block <| w_loop <| w_sl 0 (v_l) rfl <| w_sl 2 (v_t2) rfl <| w_sl 3 (errV 73 t3) rfl <| w_sl 7 (v8) rfl <| w_sl 41 (.int .i64 ((w64 (((List.replicate (w64 (Int.tdiv (w64 ((w64 (last + 7)) - 1)) 7) : Int).toNat (0 : Int)).length : Int) - 1)) - 0)) rfl <| w_sl 42 (.int .i64 0) rfl <| hh.l1 hle he h_l h_t2 h10
theorem fspec_Encode.b1_ok {k : Nat} {h : fspec_Encode.Hs} (hh : fspec_Encode.OK h) {H0 H : Hp} {L : Items} {r : (List Int) × (Option Int)} {jk_ : Nat → Value} {l : List Int} {t2 : List Int} {t3 : Option Int} {out : List Int} {t41 : Int} {t42 : Int} {v_l : Value} {v_t2 : Value} {v_out : Value} {i_out : Item'} (hle : H0.le H) (he : fspec_Encode.b1 k h l t2 t3 out t41 t42 = some r) (h_l : Src kI64 H L v_l l) (h_t2 : Ro kU8 H v_t2 t2) (h_out : Sl kU8 H 5 i_out v_out out) : Wp Tryd.prog 18 69 fspec_Encode.Kl1 (upd (upd (upd (upd (upd (upd jk_ 0 (v_l)) 2 (v_t2)) 3 (errV 73 t3)) 7 (v_out)) 41 (.int .i64 t41)) 42 (.int .i64 t42)) H (i_out :: L) (fspec_Encode.R H0 L r) := by
 unfold fspec_Encode.b1 at he
 unfold fspec_Encode.Kl1
 refine wR rfl <| w_d rfl (d_lss rfl rfl) <| wE ?_
 rcases its he with ⟨c14, he⟩ | ⟨c14, he⟩
 ·
  refine w_then rfl (dt c14) <| w_skip <| w_seq <| w_block <| wR rfl <| wM (.int .i64 t42) rfl rfl <| wA (.int .i64 t42) rfl rfl <| w_done <| w_region rfl <| wM v_out rfl rfl <| wM (.int .i64 t42) rfl rfl ?_
  obtain ⟨c15, he⟩ := rq he
  refine w_d rfl (d_indexS (sz := 1) Tryd.underlying26 sz5 rfl h_out.shp rfl c15) <| w_a0 rfl (o_storeEl (kd := kU8) (v := .int .u8 1) (F := fun z_ => z_ :: L) sz5 rfl rfl rfl rfl h_out c15 (fun _ => .here)) ?_
  rintro _ _ _ ⟨i16, rfl, rfl, rfl, h17⟩
  refine w_done <| w_inBlock <| w_region rfl <| w_d rfl (d_add (c := w64 (t42 + 1)) rfl rfl rfl) <| wM (.int .i64 (w64 (t42 + 1))) rfl rfl <| w_done <| w_inLoop <| w_sl 0 (v_l) rfl <| w_sl 2 (v_t2) rfl <| w_sl 3 (errV 73 t3) rfl <| w_sl 7 (v_out) rfl <| w_sl 41 (.int .i64 t41) rfl ?_
  refine w_sl 42 (.int .i64 (w64 (t42 + 1))) rfl <| hh.l1 hle he h_l h_t2 h17
 ·
  refine w_else rfl (df c14) <| w_exit rfl <| w_seq <| wR rfl <| wM v_l rfl rfl <| w_d rfl (d_len Tryd.underlying41 rfl h_l.th) <| wM (.int .i64 0) rfl rfl <| w_done <| w_block <| w_loop <| w_sl 2 (v_t2) rfl ?_
  refine w_sl 3 (errV 73 t3) rfl <| w_sl 7 (v_out) rfl <| w_sl 49 (v_l) rfl <| w_sl 50 (.int .i64 (l.length : Int)) rfl <| w_sl 51 (.int .i64 0) rfl <| hh.l2 hle he h_t2 h_out h_l
theorem fspec_Encode.b2_ok {k : Nat} {h : fspec_Encode.Hs} (hh : fspec_Encode.OK h) {H0 H : Hp} {L : Items} {r : (List Int) × (Option Int)} {jk_ : Nat → Value} {t2 : List Int} {t3 : Option Int} {out : List Int} {t49 : List Int} {t50 : Int} {t51 : Int} {v_t2 : Value} {v_out : Value} {v_t49 : Value} {i_out : Item'} (hle : H0.le H) (he : fspec_Encode.b2 k h t2 t3 out t49 t50 t51 = some r) (h_t2 : Ro kU8 H v_t2 t2) (h_out : Sl kU8 H 5 i_out v_out out) (h_t49 : Src kI64 H L v_t49 t49) : Wp Tryd.prog 18 69 fspec_Encode.Kl2 (upd (upd (upd (upd (upd (upd jk_ 2 (v_t2)) 3 (errV 73 t3)) 7 (v_out)) 49 (v_t49)) 50 (.int .i64 t50)) 51 (.int .i64 t51)) H (i_out :: L) (fspec_Encode.R H0 L r) := by
 unfold fspec_Encode.b2 at he
 unfold fspec_Encode.Kl2
 refine wR rfl <| w_d rfl (d_lss rfl rfl) <| wE ?_
 rcases its he with ⟨c18, he⟩ | ⟨c18, he⟩
 ·
  refine w_then rfl (dt c18) <| w_skip <| w_seq <| w_block <| wR rfl ?_
  obtain ⟨c19, he⟩ := rq he
  refine w_d rfl (d_index (sz := 1) Tryd.underlying41 sz3 rfl h_t49.th rfl c19) <| w_d rfl (d_ldint ty3 rfl h_t49.th c19) <| wA (.int .i64 (rd t49 t51)) rfl rfl <| w_done ?_
  obtain ⟨c20, he⟩ := rq he
  obtain ⟨c21, he⟩ := rq he
  refine w_drawn (p := 10) (tl := [10, 11, 12]) [[], [], [(1, some 56)], [(2, some 57)], [(0, some 55), (3, some 58)], [(4, some 59)], [], [(6, some 61)], [(7, some 62)], [(8, some 63)]] [some 55, some 56, some 57, some 58, some 59, some 60, some 61, some 62, some 63, some 64] (fctF (.is (v_out) :: .is (.int .i64 (rd t49 t51)) :: .is (.int .i64 (w64 ((rd t49 t51) - 1))) :: .is (.int .i64 (w64 (Int.tdiv (w64 ((rd t49 t51) - 1)) 7))) :: .is (.pointer (some (pel v_out (w64 (Int.tdiv (w64 ((rd t49 t51) - 1)) 7)) 1))) :: .is (.int .u8 (rd out (w64 (Int.tdiv (w64 ((rd t49 t51) - 1)) 7)))) :: .is (.int .i64 (rd t49 t51)) :: .is (.int .i64 (w64 ((rd t49 t51) - 1))) :: .is (.int .i64 (Int.tmod (w64 ((rd t49 t51) - 1)) 7)) :: .is (.int .u8 (128 / 2 ^ shn .u8 (Int.tmod (w64 ((rd t49 t51) - 1)) 7))) :: [])) (fun m_ => i_out :: L) (fun _ => none) mixed (by kernel_rfl) (by kernel_rfl) rfl (fct_mono (by kernel_rfl)) ⟨(fun H' m_ hH hm_ hu_ => dn <| s_d (m_ 0) rfl (d_move (v := v_out) rfl) (by exact rfl) rfl), (fun H' m_ hH hm_ hu_ => dn <| s_d (m_ 1) rfl (d_move (v := .int .i64 (rd t49 t51)) rfl) (by exact rfl) rfl), (by rintro H' m_ hH hm_ hu_ _ rfl; exact dn <| s_d (m_ 2) rfl (d_sub (c := w64 ((rd t49 t51) - 1)) rfl rfl rfl) (by exact rfl) rfl), (by rintro H' m_ hH hm_ hu_ _ rfl; exact dn <| s_d (m_ 3) rfl (d_quo (c := w64 (Int.tdiv (w64 ((rd t49 t51) - 1)) 7)) rfl rfl (by decide) rfl) (by exact rfl) rfl), (by rintro H' m_ hH hm_ hu_ _ rfl _ rfl; exact dn <| s_d (m_ 4) rfl (d_indexS (sz := 1) Tryd.underlying26 sz5 rfl (h_out.mono hH).shp rfl c20) (by exact rfl) rfl), (by rintro H' m_ hH hm_ hu_ _ rfl; exact dn <| s_d (m_ 5) rfl (d_ldint ty5 rfl ((h_out.mono hH).src .here) c20) (by exact rfl) rfl), (fun H' m_ hH hm_ hu_ => dn <| s_d (m_ 6) rfl (d_move (v := .int .i64 (rd t49 t51)) rfl) (by exact rfl) rfl), (by rintro H' m_ hH hm_ hu_ _ rfl; exact dn <| s_d (m_ 7) rfl (d_sub (c := w64 ((rd t49 t51) - 1)) rfl rfl rfl) (by exact rfl) rfl), (by rintro H' m_ hH hm_ hu_ _ rfl; exact dn <| s_d (m_ 8) rfl (d_rem rfl rfl (by decide)) (by exact rfl) rfl), (by rintro H' m_ hH hm_ hu_ _ rfl; exact dn <| s_d (m_ 9) rfl (d_shr (c := 128 / 2 ^ shn .u8 (Int.tmod (w64 ((rd t49 t51) - 1)) 7)) rfl rfl c21 rfl) (by exact rfl) rfl), trivial⟩ ?_
  intro H22 e23
  rintro _ _ rfl _ _ rfl _ _ rfl _ _ rfl _ _ rfl _ _ rfl _ _ rfl _ _ rfl _ _ rfl _ _ rfl
  refine w_d rfl (d_bor rfl rfl) ?_
  obtain ⟨c24, he⟩ := rq he
  refine w_d rfl (d_indexS (sz := 1) Tryd.underlying26 sz5 rfl (h_out.mono e23).shp rfl c24) <| w_a0 rfl (o_storeEl (kd := kU8) (v := .int .u8 (ior .u8 (rd out (w64 (Int.tdiv (w64 ((rd t49 t51) - 1)) 7))) (128 / 2 ^ shn .u8 (Int.tmod (w64 ((rd t49 t51) - 1)) 7)))) (F := fun z_ => z_ :: L) sz5 rfl rfl rfl rfl (h_out.mono e23) c24 (fun _ => .here)) ?_
  rintro _ _ _ ⟨i25, rfl, rfl, rfl, h26⟩
  refine w_done <| w_inBlock <| w_region rfl <| w_d rfl (d_add (c := w64 (t51 + 1)) rfl rfl rfl) <| wM (.int .i64 (w64 (t51 + 1))) rfl rfl <| w_done <| w_inLoop <| w_sl 2 (v_t2) rfl <| w_sl 3 (errV 73 t3) rfl <| w_sl 7 (v_out) rfl <| w_sl 49 (v_t49) rfl <| w_sl 50 (.int .i64 t50) rfl ?_
  refine w_sl 51 (.int .i64 (w64 (t51 + 1))) rfl <| hh.l2 (hle.trans e23) he (h_t2.mono e23) h26 (h_t49.mono e23)
 ·
  refine w_else rfl (df c18) <| w_exit rfl <| wR rfl <| wM v_out rfl rfl <| wA v_out rfl rfl <| wA (errV 73 none) rfl rfl <| w_done <| w_freeze h_out .here ?_
  intro H27 e28 h29
  obtain rfl := sj he
  refine w_return fn_18 rs_18 (.tmp (v := v_out) rfl (.tmp (v := errV 73 none) rfl .nil)) <| ⟨⟨[_], rfl⟩, hle.trans e28, ⟨v_out, rfl, h29⟩⟩
theorem fspec_Encode.ok : ∀ k, fspec_Encode.OK (fspec_Encode.hs k)
 | 0 => ⟨(by intros; exact nomatch (show none = some _ from by assumption)), (by intros; exact nomatch (show none = some _ from by assumption)), (by intros; exact nomatch (show none = some _ from by assumption))⟩
 | k + 1 => ⟨fspec_Encode.b0_ok (k := k) (fspec_Encode.ok k), fspec_Encode.b1_ok (k := k) (fspec_Encode.ok k), fspec_Encode.b2_ok (k := k) (fspec_Encode.ok k)⟩
theorem fspec_Encode.calls (k : Nat) {H : Hp} {L : Items} {l : List Int} {v0_l : Value} {r : (List Int) × (Option Int)} (he : fspec_Encode.f k l = some r) (h0_l : Src kI64 H L v0_l l) : Ct Tryd.prog 18 ⟨[v0_l]⟩ H L (cR H L (fspec_Encode.out r)) := by
 refine ct_out (O := fspec_Encode.out r) ?_
 have hle : H.le H := .refl _
 have hh := fspec_Encode.ok k
 unfold fspec_Encode.f at he
 refine ct_enter (args := [v0_l]) fn_18 rfl nt_18 rfl <| wR rfl <| wA (.slice none 0 0) rfl rfl <| wA (errV 73 none) rfl rfl <| wE <| wR rfl <| wM v0_l rfl rfl <| w_d rfl (d_len Tryd.underlying41 rfl h0_l) <| w_d rfl (d_eql rfl rfl) ?_
 refine w_done ?_
 rcases its he with ⟨c1, he⟩ | ⟨c1, he⟩
 ·
  refine w_then rfl (dt c1) <| wR rfl <| w_d rfl (d_iface (v := .int .i64 1) Tryd.underlying73 rfl rfl) <| wA (.slice none 0 0) rfl rfl <| wA (errV 73 (some 1)) rfl rfl <| w_done ?_
  obtain rfl := sj he
  refine w_return fn_18 rs_18 (.tmp (v := .slice none 0 0) rfl (.tmp (v := errV 73 (some 1)) rfl .nil)) <| ⟨⟨[], rfl⟩, hle, ⟨.slice none 0 0, rfl, (ro_nil _ _)⟩⟩
 ·
  refine w_else rfl (df c1) <| w_skip <| wR rfl <| wA (.int .i64 0) rfl rfl <| wE <| wR rfl <| wM v0_l rfl rfl <| w_d rfl (d_len Tryd.underlying41 rfl h0_l) <| wM (.int .i64 0) rfl rfl ?_
  refine w_done <| w_block <| w_loop <| w_sl 0 (v0_l) rfl <| w_sl 2 (.slice none 0 0) rfl <| w_sl 3 (errV 73 none) rfl <| w_sl 4 (.int .i64 0) rfl <| w_sl 15 (v0_l) rfl <| w_sl 16 (.int .i64 (l.length : Int)) rfl <| w_sl 17 (.int .i64 0) rfl <| hh.l0 hle he h0_l (ro_nil _ _) h0_l
noncomputable def cat062_head.C : Code := (Tryd.f34.body).getD .skip
abbrev cat062_head.out (r : (List Int)) (H : Hp) (v : Value) : Prop := Ro kU8 H v r
noncomputable def cat062_head.f (k : Nat)  : Option (List Int) := (fspec_Encode.f k [1, 4, 6, 7, 12, 13]).bind fun y4 => if y4.2.isSome = true then (some ([])) else (some (y4.1))
theorem cat062_head.mono : ∀ k, LeO (cat062_head.f k) (cat062_head.f (k + 1)) := fun k => by unfold cat062_head.f; exact (LeO.bind (fspec_Encode.mono k _) fun _ => LeO.ite (LeO.refl _) (LeO.refl _))
theorem cat062_head.calls (k : Nat) {H : Hp} {L : Items} {r : (List Int)} (he : cat062_head.f k  = some r) : Ct Tryd.prog 34 ⟨[]⟩ H L (cR H L (cat062_head.out r)) := by
 refine ct_out (O := cat062_head.out r) ?_
 have hle : H.le H := .refl _
 unfold cat062_head.f at he
 refine ct_enter (args := []) fn_34 rfl nt_34 rfl <| wR rfl <| wA (.slice none 0 0) rfl rfl <| wQ rfl <| w_a rfl (o_buildSlice' (kd := kI64) (css := [[.int .i64 1], [.int .i64 4], [.int .i64 6], [.int .i64 7], [.int .i64 12], [.int .i64 13]]) (xs := [1, 4, 6, 7, 12, 13]) (parts := [(0, .int .i64 1), (1, .int .i64 4), (2, .int .i64 6), (3, .int .i64 7), (4, .int .i64 12), (5, .int .i64 13)]) Tryd.underlying41 ti3 rfl ⟨_, _, rfl, rfl, ⟨_, _, rfl, rfl, ⟨_, _, rfl, rfl, ⟨_, _, rfl, rfl, ⟨_, _, rfl, rfl, ⟨_, _, rfl, rfl, rfl⟩⟩⟩⟩⟩⟩ ⟨rfl, ⟨rfl, ⟨rfl, ⟨rfl, ⟨rfl, ⟨rfl, trivial⟩⟩⟩⟩⟩⟩ rfl (by decide)) ?_
 rintro v1 _ _ ⟨i2, rfl, rfl, h3⟩
 obtain ⟨y4, hy5, he⟩ := bs he
 refine w_a rfl (o_call co18 (vs := [v1]) rfl (fspec_Encode.calls k hy5 (h3.src .here))) ?_
 rintro _ H6 _ ⟨rfl, e7, ⟨v8, rfl, h9⟩⟩
 refine wM (.tuple ⟨[v8, errV 73 y4.2]⟩) rfl rfl <| w_d rfl (d_ext (vs := [v8, errV 73 y4.2]) rfl rfl) <| w_d rfl (d_ext (vs := [v8, errV 73 y4.2]) rfl rfl) <| wA v8 rfl rfl <| wA (errV 73 y4.2) rfl rfl <| wE <| wR rfl <| wM (errV 73 y4.2) rfl rfl <| w_d rfl (d_nenil (e := y4.2) Tryd.underlying28 rfl) <| w_done ?_
 rcases its he with ⟨c10, he⟩ | ⟨c10, he⟩
 ·
  refine w_then rfl c10 <| wR rfl <| wA (.slice none 0 0) rfl rfl <| w_done ?_
  obtain rfl := sj he
  refine w_return fn_34 rs_34 (.tmp (v := .slice none 0 0) rfl .nil) <| ⟨⟨[_], rfl⟩, hle.trans e7, (ro_nil _ _)⟩
 ·
  refine w_else rfl (Bool.eq_false_iff.2 c10) <| w_skip <| wR rfl <| wM v8 rfl rfl <| wA v8 rfl rfl <| w_done ?_
  obtain rfl := sj he
  refine w_return fn_34 rs_34 (.tmp (v := v8) rfl .nil) <| ⟨⟨[_], rfl⟩, hle.trans e7, h9⟩
noncomputable def cat062_Encode.C : Code := (Tryd.f9.body).getD .skip
def cat062_Encode.out (r : (List Int) × (Option Int)) (H : Hp) (v : Value) : Prop := ∃ v0, v = .tuple ⟨[v0, errV 73 r.2]⟩ ∧ Ro kU8 H v0 r.1
theorem cat062_Encode.out_mono (r : (List Int) × (Option Int)) {H H' : Hp} {v : Value} (hle : H.le H') (h : cat062_Encode.out r H v) : cat062_Encode.out r H' v := by
 obtain ⟨v0, rfl, h0⟩ := h; exact ⟨v0, rfl, h0.mono hle⟩
abbrev cat062_Encode.R (H0 : Hp) (L : Items) (r : (List Int) × (Option Int)) := fR H0 L (cat062_Encode.out r)
structure cat062_Encode.Hs where
 l0 : Int → (List cat062_Report) → (List Int) → (Option Int) → (List cat062_Report) → Int → Int → Option ((List Int) × (Option Int))
 l1 : Int → (List Int) → (Option Int) → (List Int) → (List cat062_Report) → Int → Int → Option ((List Int) × (Option Int))
noncomputable def cat062_Encode.b0 (k : Nat) (h : cat062_Encode.Hs)  (source : Int) (l : List cat062_Report) (t4 : List Int) (t5 : Option Int) (t11 : List cat062_Report) (t12 : Int) (t13 : Int) : Option ((List Int) × (Option Int)) := if t13 < t12 then (if (0 : Int) ≤ t13 ∧ t13 < (t11.length : Int) then ((cat062_Report_may.f k (rd t11 t13)).bind fun y6 => if (!y6) = true then (some ([], some 1)) else (h.l0 source l t4 t5 t11 t12 (w64 (t13 + 1)))) else none) else (if 512 < (l.length : Int) then (some ([], some 2)) else ((cat062_lay.f k [62] (w64 (3 + (w64 (20 * (l.length : Int))))) 2).bind fun y15 => h.l1 source t4 t5 y15 l (l.length : Int) 0))
noncomputable def cat062_Encode.b1 (k : Nat) (h : cat062_Encode.Hs)  (source : Int) (t4 : List Int) (t5 : Option Int) (out : List Int) (t32 : List cat062_Report) (t33 : Int) (t34 : Int) : Option ((List Int) × (Option Int)) := if t34 < t33 then (if (0 : Int) ≤ t34 ∧ t34 < (t32.length : Int) then ((cat062_head.f k).bind fun y27 => if out.length + y27.length ≤ 140737488355200 then ((cat062_lay.f k (out ++ y27) (w64 (source)) 2).bind fun y37 => (cat062_lay.f k y37 ((rd t32 t34).f_Time) 3).bind fun y44 => (cat062_lay.f k y44 (w64 ((rd t32 t34).f_X)) 3).bind fun y51 => (cat062_lay.f k y51 (w64 ((rd t32 t34).f_Y)) 3).bind fun y60 => (cat062_lay.f k y60 (w64 ((rd t32 t34).f_VX)) 2).bind fun y67 => (cat062_lay.f k y67 (w64 ((rd t32 t34).f_VY)) 2).bind fun y76 => (cat062_lay.f k y76 (w64 ((rd t32 t34).f_ID)) 2).bind fun y93 => if y93.length + 1 ≤ 140737488355200 then (h.l1 source t4 t5 (y93 ++ [(((rd t32 t34).f_State) * 2) % 256]) t32 t33 (w64 (t34 + 1))) else none) else none) else none) else (some (out, none))
noncomputable def cat062_Encode.hs : Nat → cat062_Encode.Hs
 | 0 => ⟨fun _ _ _ _ _ _ _ => none, fun _ _ _ _ _ _ _ => none⟩
 | k + 1 => ⟨fun x0 x1 x2 x3 x4 x5 x6 => cat062_Encode.b0 k (cat062_Encode.hs k) x0 x1 x2 x3 x4 x5 x6, fun x0 x1 x2 x3 x4 x5 x6 => cat062_Encode.b1 k (cat062_Encode.hs k) x0 x1 x2 x3 x4 x5 x6⟩
noncomputable def cat062_Encode.f (k : Nat) (source : Int) (l : List cat062_Report) : Option ((List Int) × (Option Int)) := (fun h : cat062_Encode.Hs => h.l0 source l [] none l (l.length : Int) 0) (cat062_Encode.hs k)
structure cat062_Encode.LE (h h' : cat062_Encode.Hs) : Prop where
 l0 : ∀ y0 y1 y2 y3 y4 y5 y6, LeO (h.l0 y0 y1 y2 y3 y4 y5 y6) (h'.l0 y0 y1 y2 y3 y4 y5 y6)
 l1 : ∀ y0 y1 y2 y3 y4 y5 y6, LeO (h.l1 y0 y1 y2 y3 y4 y5 y6) (h'.l1 y0 y1 y2 y3 y4 y5 y6)
theorem cat062_Encode.b0_mono {k : Nat} {h h' : cat062_Encode.Hs} (hl : cat062_Encode.LE h h') : ∀ y0 y1 y2 y3 y4 y5 y6, LeO (cat062_Encode.b0 k h y0 y1 y2 y3 y4 y5 y6) (cat062_Encode.b0 (k + 1) h' y0 y1 y2 y3 y4 y5 y6) := fun _ _ _ _ _ _ _ => (LeO.ite (LeO.ite (LeO.bind (cat062_Report_may.mono k _) fun _ => LeO.ite (LeO.refl _) (hl.l0 _ _ _ _ _ _ _)) (LeO.refl _)) (LeO.ite (LeO.refl _) (LeO.bind (cat062_lay.mono k _ _ _) fun _ => hl.l1 _ _ _ _ _ _ _)))
theorem cat062_Encode.b1_mono {k : Nat} {h h' : cat062_Encode.Hs} (hl : cat062_Encode.LE h h') : ∀ y0 y1 y2 y3 y4 y5 y6, LeO (cat062_Encode.b1 k h y0 y1 y2 y3 y4 y5 y6) (cat062_Encode.b1 (k + 1) h' y0 y1 y2 y3 y4 y5 y6) := fun _ _ _ _ _ _ _ => (LeO.ite (LeO.ite (LeO.bind (cat062_head.mono k) fun _ => LeO.ite (LeO.bind (cat062_lay.mono k _ _ _) fun _ => LeO.bind (cat062_lay.mono k _ _ _) fun _ => LeO.bind (cat062_lay.mono k _ _ _) fun _ => LeO.bind (cat062_lay.mono k _ _ _) fun _ => LeO.bind (cat062_lay.mono k _ _ _) fun _ => LeO.bind (cat062_lay.mono k _ _ _) fun _ => LeO.bind (cat062_lay.mono k _ _ _) fun _ => LeO.ite (hl.l1 _ _ _ _ _ _ _) (LeO.refl _)) (LeO.refl _)) (LeO.refl _)) (LeO.refl _))
theorem cat062_Encode.hs_mono : ∀ k, cat062_Encode.LE (cat062_Encode.hs k) (cat062_Encode.hs (k + 1))
 | 0 => ⟨fun _ _ _ _ _ _ _ => LeO.none _, fun _ _ _ _ _ _ _ => LeO.none _⟩
 | k + 1 => ⟨cat062_Encode.b0_mono (k := k) (cat062_Encode.hs_mono k), cat062_Encode.b1_mono (k := k) (cat062_Encode.hs_mono k)⟩
theorem cat062_Encode.mono : ∀ k y0 y1, LeO (cat062_Encode.f k y0 y1) (cat062_Encode.f (k + 1) y0 y1) := fun k _ _ => have hl := cat062_Encode.hs_mono k; by unfold cat062_Encode.f; exact (hl.l0 _ _ _ _ _ _ _)
noncomputable def cat062_Encode.Kl0 : List Item := .code (lopB (blkB (seqR (seqL (seqR cat062_Encode.C))))) :: .inLoop (lopB (blkB (seqR (seqL (seqR cat062_Encode.C))))) :: .inBlock 0 :: .code (seqR (seqR cat062_Encode.C)) :: []
noncomputable def cat062_Encode.Kl1 : List Item := .code (lopB (blkB (seqR (seqL (seqR (seqR (seqR (seqR cat062_Encode.C)))))))) :: .inLoop (lopB (blkB (seqR (seqL (seqR (seqR (seqR (seqR cat062_Encode.C)))))))) :: .inBlock 2 :: .code (seqR (seqR (seqR (seqR (seqR cat062_Encode.C))))) :: []
structure cat062_Encode.OK (h : cat062_Encode.Hs) : Prop where
 l0 : ∀ {H0 H : Hp} {L : Items} {r : (List Int) × (Option Int)} {jk_ : Nat → Value} {source : Int} {l : List cat062_Report} {t4 : List Int} {t5 : Option Int} {t11 : List cat062_Report} {t12 : Int} {t13 : Int} {v_l : Value} {v_t4 : Value} {v_t11 : Value} (_ : H0.le H) (_he : h.l0 source l t4 t5 t11 t12 t13 = some r) (_h_l : Src k_cat062_Report H L v_l l) (_h_t4 : Ro kU8 H v_t4 t4) (_h_t11 : Src k_cat062_Report H L v_t11 t11), Wp Tryd.prog 9 78 cat062_Encode.Kl0 (upd (upd (upd (upd (upd (upd (upd jk_ 0 (.int .u16 source)) 1 (v_l)) 4 (v_t4)) 5 (errV 73 t5)) 11 (v_t11)) 12 (.int .i64 t12)) 13 (.int .i64 t13)) H (L) (cat062_Encode.R H0 L r)
 l1 : ∀ {H0 H : Hp} {L : Items} {r : (List Int) × (Option Int)} {jk_ : Nat → Value} {source : Int} {t4 : List Int} {t5 : Option Int} {out : List Int} {t32 : List cat062_Report} {t33 : Int} {t34 : Int} {v_t4 : Value} {v_out : Value} {v_t32 : Value} {i_out : Item'} (_ : H0.le H) (_he : h.l1 source t4 t5 out t32 t33 t34 = some r) (_h_t4 : Ro kU8 H v_t4 t4) (_h_out : Sl kU8 H 5 i_out v_out out) (_h_t32 : Src k_cat062_Report H L v_t32 t32), Wp Tryd.prog 9 78 cat062_Encode.Kl1 (upd (upd (upd (upd (upd (upd (upd jk_ 0 (.int .u16 source)) 4 (v_t4)) 5 (errV 73 t5)) 8 (v_out)) 32 (v_t32)) 33 (.int .i64 t33)) 34 (.int .i64 t34)) H (i_out :: L) (cat062_Encode.R H0 L r)
theorem cat062_Encode.b0_ok {k : Nat} {h : cat062_Encode.Hs} (hh : cat062_Encode.OK h) {H0 H : Hp} {L : Items} {r : (List Int) × (Option Int)} {jk_ : Nat → Value} {source : Int} {l : List cat062_Report} {t4 : List Int} {t5 : Option Int} {t11 : List cat062_Report} {t12 : Int} {t13 : Int} {v_l : Value} {v_t4 : Value} {v_t11 : Value} (hle : H0.le H) (he : cat062_Encode.b0 k h source l t4 t5 t11 t12 t13 = some r) (h_l : Src k_cat062_Report H L v_l l) (h_t4 : Ro kU8 H v_t4 t4) (h_t11 : Src k_cat062_Report H L v_t11 t11) : Wp Tryd.prog 9 78 cat062_Encode.Kl0 (upd (upd (upd (upd (upd (upd (upd jk_ 0 (.int .u16 source)) 1 (v_l)) 4 (v_t4)) 5 (errV 73 t5)) 11 (v_t11)) 12 (.int .i64 t12)) 13 (.int .i64 t13)) H (L) (cat062_Encode.R H0 L r) := by
 unfold cat062_Encode.b0 at he
 unfold cat062_Encode.Kl0
 refine wR rfl <| w_d rfl (d_lss rfl rfl) <| wE ?_
 rcases its he with ⟨c1, he⟩ | ⟨c1, he⟩
 ·
  refine w_then rfl (dt c1) <| w_skip <| w_seq <| w_block <| wR rfl ?_
  obtain ⟨c2, he⟩ := rq he
  refine w_d rfl (d_index (sz := 7) Tryd.underlying31 sz70 rfl h_t11 rfl c2) ?_
  obtain ⟨_, l3, r4⟩ := el_of (kd := k_cat062_Report) h_t11 c2
  obtain ⟨rfl⟩ := k_cat062_Report_out r4
  refine w_d rfl (d_load (v := .agg ⟨[.int .u16 ((rd t11 t13).f_ID), .int .i64 ((rd t11 t13).f_Time), .int .i32 ((rd t11 t13).f_X), .int .i32 ((rd t11 t13).f_Y), .int .i16 ((rd t11 t13).f_VX), .int .i16 ((rd t11 t13).f_VY), .int .u8 ((rd t11 t13).f_State)]⟩) (cs := [.int .u16 ((rd t11 t13).f_ID), .int .i64 ((rd t11 t13).f_Time), .int .i32 ((rd t11 t13).f_X), .int .i32 ((rd t11 t13).f_Y), .int .i16 ((rd t11 t13).f_VX), .int .i16 ((rd t11 t13).f_VY), .int .u8 ((rd t11 t13).f_State)]) ty70 rfl rfl (by decide) l3 rfl) <| w_a rfl (o_alloc zr70 rfl) ?_
  rintro _ _ _ ⟨b5, rfl, rfl, rfl⟩
  refine w_a0 rfl (o_store (v := .agg ⟨[.int .u16 ((rd t11 t13).f_ID), .int .i64 ((rd t11 t13).f_Time), .int .i32 ((rd t11 t13).f_X), .int .i32 ((rd t11 t13).f_Y), .int .i16 ((rd t11 t13).f_VX), .int .i16 ((rd t11 t13).f_VY), .int .u8 ((rd t11 t13).f_State)]⟩) sz70 rfl rfl rfl rfl (oc rfl (oc rfl (oc rfl (oc rfl (oc rfl (oc rfl (oc rfl oz))))))) .here (.here (.here (.here u4)))) ?_
  rintro _ _ _ ⟨rfl, rfl, rfl⟩
  refine wQ rfl <| wL (.agg ⟨[.int .u16 ((rd t11 t13).f_ID), .int .i64 ((rd t11 t13).f_Time), .int .i32 ((rd t11 t13).f_X), .int .i32 ((rd t11 t13).f_Y), .int .i16 ((rd t11 t13).f_VX), .int .i16 ((rd t11 t13).f_VY), .int .u8 ((rd t11 t13).f_State)]⟩) ty70 rfl rfl .here rfl rfl ?_
  obtain ⟨y6, hy7, he⟩ := bs he
  refine w_d rfl (call_d (o_call co32 (vs := [.agg ⟨[.int .u16 ((rd t11 t13).f_ID), .int .i64 ((rd t11 t13).f_Time), .int .i32 ((rd t11 t13).f_X), .int .i32 ((rd t11 t13).f_Y), .int .i16 ((rd t11 t13).f_VX), .int .i16 ((rd t11 t13).f_VY), .int .u8 ((rd t11 t13).f_State)]⟩]) rfl (cat062_Report_may.calls k (r_ := (rd t11 t13)) hy7))) <| w_d rfl (d_not (b := y6) rfl) <| w_done ?_
  rcases its he with ⟨c10, he⟩ | ⟨c10, he⟩
  ·
   refine w_then rfl c10 <| wR rfl <| w_d rfl (d_iface (v := .int .i64 1) Tryd.underlying73 rfl rfl) <| wA (.slice none 0 0) rfl rfl <| wA (errV 73 (some 1)) rfl rfl <| w_done ?_
   obtain rfl := sj he
   refine w_return fn_9 rs_9 (.tmp (v := .slice none 0 0) rfl (.tmp (v := errV 73 (some 1)) rfl .nil)) <| ⟨⟨[_], rfl⟩, hle, ⟨.slice none 0 0, rfl, (ro_nil _ _)⟩⟩
  ·
   refine w_else rfl (Bool.eq_false_iff.2 c10) <| w_skip <| w_inBlock <| w_region rfl <| w_d rfl (d_add (c := w64 (t13 + 1)) rfl rfl rfl) <| wM (.int .i64 (w64 (t13 + 1))) rfl rfl <| w_done <| w_inLoop <| w_del .here <| w_sl 0 (.int .u16 source) rfl <| w_sl 1 (v_l) rfl <| w_sl 4 (v_t4) rfl ?_
   refine w_sl 5 (errV 73 t5) rfl <| w_sl 11 (v_t11) rfl <| w_sl 12 (.int .i64 t12) rfl <| w_sl 13 (.int .i64 (w64 (t13 + 1))) rfl <| hh.l0 hle he h_l h_t4 h_t11
 ·
  refine w_else rfl (df c1) <| w_exit rfl <| w_seq <| wR rfl <| wM v_l rfl rfl <| w_d rfl (d_len Tryd.underlying31 rfl h_l) <| w_d rfl (d_gtr rfl rfl) <| w_done ?_
  rcases its he with ⟨c11, he⟩ | ⟨c11, he⟩
  ·
   refine w_then rfl (dt c11) <| wR rfl <| w_d rfl (d_iface (v := .int .i64 2) Tryd.underlying73 rfl rfl) <| wA (.slice none 0 0) rfl rfl <| wA (errV 73 (some 2)) rfl rfl <| w_done ?_
   obtain rfl := sj he
   refine w_return fn_9 rs_9 (.tmp (v := .slice none 0 0) rfl (.tmp (v := errV 73 (some 2)) rfl .nil)) <| ⟨⟨[], rfl⟩, hle, ⟨.slice none 0 0, rfl, (ro_nil _ _)⟩⟩
  ·
   refine w_else rfl (df c11) <| w_skip <| wR rfl <| w_a rfl (o_buildSlice' (kd := kU8) (css := [[.int .u8 62]]) (xs := [62]) (parts := [(0, .int .u8 62)]) Tryd.underlying26 ti5 rfl ⟨_, _, rfl, rfl, rfl⟩ ⟨rfl, trivial⟩ rfl (by decide)) ?_
   rintro v12 _ _ ⟨i13, rfl, rfl, h14⟩
   refine wM v_l rfl rfl <| w_d rfl (d_len Tryd.underlying31 rfl h_l.th) <| w_d rfl (d_mul (c := w64 (20 * (l.length : Int))) rfl rfl rfl) <| w_d rfl (d_add (c := w64 (3 + (w64 (20 * (l.length : Int))))) rfl rfl rfl) ?_
   obtain ⟨y15, hy16, he⟩ := bs he
   refine w_a rfl (o_call co33 (vs := [v12, .int .i64 (w64 (3 + (w64 (20 * (l.length : Int))))), .int .i64 2]) rfl (ct_att (F := fun z_ => z_ :: L) (cat062_lay.calls k hy16 h14) .here (fun _ => .here))) ?_
   rintro v17 H18 _ ⟨i20, rfl, e19, h21⟩
   refine wA v17 rfl rfl <| wE <| wR rfl <| wM v_l rfl rfl <| w_d rfl (d_len Tryd.underlying31 rfl (h_l.mono e19).th) <| wM (.int .i64 0) rfl rfl <| w_done <| w_block <| w_loop <| w_sl 0 (.int .u16 source) rfl ?_
   refine w_sl 4 (v_t4) rfl <| w_sl 5 (errV 73 t5) rfl <| w_sl 8 (v17) rfl <| w_sl 32 (v_l) rfl <| w_sl 33 (.int .i64 (l.length : Int)) rfl <| w_sl 34 (.int .i64 0) rfl <| hh.l1 (hle.trans e19) he (h_t4.mono e19) h21 (h_l.mono e19)
theorem cat062_Encode.b1_ok {k : Nat} {h : cat062_Encode.Hs} (hh : cat062_Encode.OK h) {H0 H : Hp} {L : Items} {r : (List Int) × (Option Int)} {jk_ : Nat → Value} {source : Int} {t4 : List Int} {t5 : Option Int} {out : List Int} {t32 : List cat062_Report} {t33 : Int} {t34 : Int} {v_t4 : Value} {v_out : Value} {v_t32 : Value} {i_out : Item'} (hle : H0.le H) (he : cat062_Encode.b1 k h source t4 t5 out t32 t33 t34 = some r) (h_t4 : Ro kU8 H v_t4 t4) (h_out : Sl kU8 H 5 i_out v_out out) (h_t32 : Src k_cat062_Report H L v_t32 t32) : Wp Tryd.prog 9 78 cat062_Encode.Kl1 (upd (upd (upd (upd (upd (upd (upd jk_ 0 (.int .u16 source)) 4 (v_t4)) 5 (errV 73 t5)) 8 (v_out)) 32 (v_t32)) 33 (.int .i64 t33)) 34 (.int .i64 t34)) H (i_out :: L) (cat062_Encode.R H0 L r) := by
 unfold cat062_Encode.b1 at he
 unfold cat062_Encode.Kl1
 refine wR rfl <| w_d rfl (d_lss rfl rfl) <| wE ?_
 rcases its he with ⟨c22, he⟩ | ⟨c22, he⟩
 ·
  refine w_then rfl (dt c22) <| w_skip <| w_seq <| w_block <| wR rfl ?_
  obtain ⟨c23, he⟩ := rq he
  refine w_d rfl (d_index (sz := 7) Tryd.underlying31 sz70 rfl h_t32.th rfl c23) ?_
  obtain ⟨_, l24, r25⟩ := el_of (kd := k_cat062_Report) h_t32.th c23
  obtain ⟨rfl⟩ := k_cat062_Report_out r25
  refine w_d rfl (d_load (v := .agg ⟨[.int .u16 ((rd t32 t34).f_ID), .int .i64 ((rd t32 t34).f_Time), .int .i32 ((rd t32 t34).f_X), .int .i32 ((rd t32 t34).f_Y), .int .i16 ((rd t32 t34).f_VX), .int .i16 ((rd t32 t34).f_VY), .int .u8 ((rd t32 t34).f_State)]⟩) (cs := [.int .u16 ((rd t32 t34).f_ID), .int .i64 ((rd t32 t34).f_Time), .int .i32 ((rd t32 t34).f_X), .int .i32 ((rd t32 t34).f_Y), .int .i16 ((rd t32 t34).f_VX), .int .i16 ((rd t32 t34).f_VY), .int .u8 ((rd t32 t34).f_State)]) ty70 rfl rfl (by decide) l24 rfl) <| w_a rfl (o_alloc zr70 rfl) ?_
  rintro _ _ _ ⟨b26, rfl, rfl, rfl⟩
  refine w_a0 rfl (o_store (v := .agg ⟨[.int .u16 ((rd t32 t34).f_ID), .int .i64 ((rd t32 t34).f_Time), .int .i32 ((rd t32 t34).f_X), .int .i32 ((rd t32 t34).f_Y), .int .i16 ((rd t32 t34).f_VX), .int .i16 ((rd t32 t34).f_VY), .int .u8 ((rd t32 t34).f_State)]⟩) sz70 rfl rfl rfl rfl (oc rfl (oc rfl (oc rfl (oc rfl (oc rfl (oc rfl (oc rfl oz))))))) .here (.here (.here (.here u4)))) ?_
  rintro _ _ _ ⟨rfl, rfl, rfl⟩
  refine wQ rfl <| wM v_out rfl rfl ?_
  obtain ⟨y27, hy28, he⟩ := bs he
  refine w_a rfl (o_call co34 (vs := []) rfl (cat062_head.calls k hy28)) ?_
  rintro v31 H29 _ ⟨rfl, e30, h32⟩
  obtain ⟨c33, he⟩ := rq he
  refine w_a rfl (o_append' (kd := kU8) (F := fun z_ => some (b26, .cells ⟨[.int .u16 ((rd t32 t34).f_ID), .int .i64 ((rd t32 t34).f_Time), .int .i32 ((rd t32 t34).f_X), .int .i32 ((rd t32 t34).f_Y), .int .i16 ((rd t32 t34).f_VX), .int .i16 ((rd t32 t34).f_VY), .int .u8 ((rd t32 t34).f_State)]⟩ 70 (0, 0)) :: z_ :: L) Tryd.underlying26 Tryd.underlying26 ti5 rfl (by first | omega | (simp only [List.nil_append, List.length_cons, List.length_nil]; omega)) rfl rfl (h_out.mono e30) h32.src (fun _ => (.there .here))) ?_
  rintro v34 _ _ ⟨i35, rfl, rfl, h36⟩
  refine wM (.int .u16 source) rfl rfl <| w_d rfl (d_conv (c := w64 (source)) Tryd.underlying22 Tryd.underlying2 rfl rfl) ?_
  obtain ⟨y37, hy38, he⟩ := bs he
  refine w_a rfl (o_call co33 (vs := [v34, .int .i64 (w64 (source)), .int .i64 2]) rfl (ct_att (F := fun z_ => some (b26, .cells ⟨[.int .u16 ((rd t32 t34).f_ID), .int .i64 ((rd t32 t34).f_Time), .int .i32 ((rd t32 t34).f_X), .int .i32 ((rd t32 t34).f_Y), .int .i16 ((rd t32 t34).f_VX), .int .i16 ((rd t32 t34).f_VY), .int .u8 ((rd t32 t34).f_State)]⟩ 70 (0, 0)) :: z_ :: L) (cat062_lay.calls k hy38 h36) (.there .here) (fun _ => (.there .here)))) ?_
  rintro v39 H40 _ ⟨i42, rfl, e41, h43⟩
  refine wA v39 rfl rfl <| wQ rfl <| wM v39 rfl rfl <| w_d rfl (d_fld (o' := 1) Tryd.underlying70 rfl sz2 rfl rfl rfl) <| wL (.int .i64 ((rd t32 t34).f_Time)) ty2 rfl rfl .here rfl rfl ?_
  obtain ⟨y44, hy45, he⟩ := bs he
  refine w_a rfl (o_call co33 (vs := [v39, .int .i64 ((rd t32 t34).f_Time), .int .i64 3]) rfl (ct_att (F := fun z_ => some (b26, .cells ⟨[.int .u16 ((rd t32 t34).f_ID), .int .i64 ((rd t32 t34).f_Time), .int .i32 ((rd t32 t34).f_X), .int .i32 ((rd t32 t34).f_Y), .int .i16 ((rd t32 t34).f_VX), .int .i16 ((rd t32 t34).f_VY), .int .u8 ((rd t32 t34).f_State)]⟩ 70 (0, 0)) :: z_ :: L) (cat062_lay.calls k hy45 h43) (.there .here) (fun _ => (.there .here)))) ?_
  rintro v46 H47 _ ⟨i49, rfl, e48, h50⟩
  refine wA v46 rfl rfl <| wE ?_
  obtain ⟨y51, hy52, he⟩ := bs he
  refine w_chain (p := 8) (tl := [8, 9]) [4] (some (b26, .cells ⟨[.int .u16 ((rd t32 t34).f_ID), .int .i64 ((rd t32 t34).f_Time), .int .i32 ((rd t32 t34).f_X), .int .i32 ((rd t32 t34).f_Y), .int .i16 ((rd t32 t34).f_VX), .int .i16 ((rd t32 t34).f_VY), .int .u8 ((rd t32 t34).f_State)]⟩ 70 (0, 0)) :: i49 :: L) [[], [], [(1, some 49)], [(2, some 50)], [(0, some 48), (3, some 51)], [], [(5, some 53)], [(6, some 54)]] [some 48, some 49, some 50, some 51, some 52, some 53, some 54, some 55] (Fc.is (v46) :: Fc.is (.pointer (some ⟨b26, 2, none⟩)) :: Fc.is (.int .i32 ((rd t32 t34).f_X)) :: Fc.is (.int .i64 (w64 ((rd t32 t34).f_X))) :: Fc.ch (fun H v l_ => ∃ v53 : Value, ∃ i56 : Item', v53 = v ∧ l_ = some (b26, .cells ⟨[.int .u16 ((rd t32 t34).f_ID), .int .i64 ((rd t32 t34).f_Time), .int .i32 ((rd t32 t34).f_X), .int .i32 ((rd t32 t34).f_Y), .int .i16 ((rd t32 t34).f_VX), .int .i16 ((rd t32 t34).f_VY), .int .u8 ((rd t32 t34).f_State)]⟩ 70 (0, 0)) :: i56 :: L ∧ Sl kU8 H 5 i56 v53 y51) (by rintro _ _ _ _ hle ⟨v53, i56, rfl, rfl, h57⟩; exact ⟨v53, i56, rfl, rfl, h57.mono hle⟩) :: Fc.is (.pointer (some ⟨b26, 3, none⟩)) :: Fc.is (.int .i32 ((rd t32 t34).f_Y)) :: Fc.is (.int .i64 (w64 ((rd t32 t34).f_Y))) :: []) mixed (by kernel_rfl) (by kernel_rfl) rfl ⟨(by intro H' m_ hH hm_ hu_ hX_; refine depK_nil ?_; exact c_d hm_ rfl (d_move (v := v46) rfl) (by exact ⟨rfl, rfl⟩)), (by intro H' m_ hH hm_ hu_ hX_; refine depK_nil ?_; exact c_d hm_ rfl (d_fld (o' := 2) Tryd.underlying70 rfl sz21 rfl rfl rfl) (by exact ⟨rfl, rfl⟩)), (by intro H' m_ hH hm_ hu_ hX_; rintro _ ⟨rfl, _⟩; refine depK_nil ?_; have n_4 := hX_.1 4 (by kernel_rfl) (by decide); exact c_de hm_ (by exact chL_none ⟨n_4, trivial⟩) rfl (d_loado (v := .int .i32 ((rd t32 t34).f_X)) ty21 rfl .here rfl rfl rfl rfl) (by exact ⟨rfl, rfl⟩)), (by intro H' m_ hH hm_ hu_ hX_; rintro _ ⟨rfl, _⟩; refine depK_nil ?_; exact c_d hm_ rfl (d_conv (c := w64 ((rd t32 t34).f_X)) Tryd.underlying21 Tryd.underlying2 rfl rfl) (by exact ⟨rfl, rfl⟩)), (by intro H' m_ hH hm_ hu_ hX_; rintro _ ⟨rfl, _⟩ _ ⟨rfl, _⟩; refine depK_nil ?_; have n_4 := hm_; exact c_w rfl (fun l_ => by exact chL_w (pre := []) (c := 4) (post := []) (by decide) trivial) (o_call co33 (vs := [v46, .int .i64 (w64 ((rd t32 t34).f_X)), .int .i64 3]) rfl (ct_att (F := fun z_ => some (b26, .cells ⟨[.int .u16 ((rd t32 t34).f_ID), .int .i64 ((rd t32 t34).f_Time), .int .i32 ((rd t32 t34).f_X), .int .i32 ((rd t32 t34).f_Y), .int .i16 ((rd t32 t34).f_VX), .int .i16 ((rd t32 t34).f_VY), .int .u8 ((rd t32 t34).f_State)]⟩ 70 (0, 0)) :: z_ :: L) (cat062_lay.calls k hy52 (h50.mono hH)) (.there .here) (fun _ => (.there .here)))) (by exact chL_none ⟨n_4, trivial⟩) (by rintro v53 H54 _ ⟨i56, rfl, e55, h57⟩; exact ⟨e55, _, rfl, v53, i56, rfl, rfl, h57⟩)), (by intro H' m_ hH hm_ hu_ hX_; refine depK_nil ?_; exact c_d hm_ rfl (d_fld (o' := 3) Tryd.underlying70 rfl sz21 rfl rfl rfl) (by exact ⟨rfl, rfl⟩)), (by intro H' m_ hH hm_ hu_ hX_; rintro _ ⟨rfl, _⟩; refine depK_nil ?_; exact (hX_.2.2 4 (by decide)).elim (fun n_4 => by exact c_de hm_ (by exact chL_none ⟨n_4, trivial⟩) rfl (d_loado (v := .int .i32 ((rd t32 t34).f_Y)) ty21 rfl .here rfl rfl rfl rfl) (by exact ⟨rfl, rfl⟩)) (fun h_ => by obtain ⟨_, ⟨_, e_4, v53, i56, rfl, rfl, h57⟩⟩ := h_; exact c_de hm_ (by exact chL_at (pre := []) (c := 4) (post := []) trivial e_4) rfl (d_loado (v := .int .i32 ((rd t32 t34).f_Y)) ty21 rfl .here rfl rfl rfl rfl) (by exact ⟨rfl, rfl⟩))), (by intro H' m_ hH hm_ hu_ hX_; rintro _ ⟨rfl, _⟩; refine depK_nil ?_; exact c_d hm_ rfl (d_conv (c := w64 ((rd t32 t34).f_Y)) Tryd.underlying21 Tryd.underlying2 rfl rfl) (by exact ⟨rfl, rfl⟩)), trivial⟩ ?_ rfl
  intro H58 e59
  rintro _ _ ⟨rfl, rfl⟩ _ _ ⟨rfl, rfl⟩ _ _ ⟨rfl, rfl⟩ _ _ ⟨rfl, rfl⟩ _ _ ⟨_, rfl, v53, i56, rfl, rfl, h57⟩ _ _ ⟨rfl, rfl⟩ _ _ ⟨rfl, rfl⟩ _ _ ⟨rfl, rfl⟩
  refine w_it (L' := some (b26, .cells ⟨[.int .u16 ((rd t32 t34).f_ID), .int .i64 ((rd t32 t34).f_Time), .int .i32 ((rd t32 t34).f_X), .int .i32 ((rd t32 t34).f_Y), .int .i16 ((rd t32 t34).f_VX), .int .i16 ((rd t32 t34).f_VY), .int .u8 ((rd t32 t34).f_State)]⟩ 70 (0, 0)) :: i56 :: L) rfl ?_
  obtain ⟨y60, hy61, he⟩ := bs he
  refine w_a rfl (o_call co33 (vs := [v53, .int .i64 (w64 ((rd t32 t34).f_Y)), .int .i64 3]) rfl (ct_att (F := fun z_ => some (b26, .cells ⟨[.int .u16 ((rd t32 t34).f_ID), .int .i64 ((rd t32 t34).f_Time), .int .i32 ((rd t32 t34).f_X), .int .i32 ((rd t32 t34).f_Y), .int .i16 ((rd t32 t34).f_VX), .int .i16 ((rd t32 t34).f_VY), .int .u8 ((rd t32 t34).f_State)]⟩ 70 (0, 0)) :: z_ :: L) (cat062_lay.calls k hy61 h57) (.there .here) (fun _ => (.there .here)))) ?_
  rintro v62 H63 _ ⟨i65, rfl, e64, h66⟩
  refine wA v62 rfl rfl <| wE ?_
  obtain ⟨y67, hy68, he⟩ := bs he
  refine w_chain (p := 8) (tl := [8, 9]) [4] (some (b26, .cells ⟨[.int .u16 ((rd t32 t34).f_ID), .int .i64 ((rd t32 t34).f_Time), .int .i32 ((rd t32 t34).f_X), .int .i32 ((rd t32 t34).f_Y), .int .i16 ((rd t32 t34).f_VX), .int .i16 ((rd t32 t34).f_VY), .int .u8 ((rd t32 t34).f_State)]⟩ 70 (0, 0)) :: i65 :: L) [[], [], [(1, some 58)], [(2, some 59)], [(0, some 57), (3, some 60)], [], [(5, some 62)], [(6, some 63)]] [some 57, some 58, some 59, some 60, some 61, some 62, some 63, some 64] (Fc.is (v62) :: Fc.is (.pointer (some ⟨b26, 4, none⟩)) :: Fc.is (.int .i16 ((rd t32 t34).f_VX)) :: Fc.is (.int .i64 (w64 ((rd t32 t34).f_VX))) :: Fc.ch (fun H v l_ => ∃ v69 : Value, ∃ i72 : Item', v69 = v ∧ l_ = some (b26, .cells ⟨[.int .u16 ((rd t32 t34).f_ID), .int .i64 ((rd t32 t34).f_Time), .int .i32 ((rd t32 t34).f_X), .int .i32 ((rd t32 t34).f_Y), .int .i16 ((rd t32 t34).f_VX), .int .i16 ((rd t32 t34).f_VY), .int .u8 ((rd t32 t34).f_State)]⟩ 70 (0, 0)) :: i72 :: L ∧ Sl kU8 H 5 i72 v69 y67) (by rintro _ _ _ _ hle ⟨v69, i72, rfl, rfl, h73⟩; exact ⟨v69, i72, rfl, rfl, h73.mono hle⟩) :: Fc.is (.pointer (some ⟨b26, 5, none⟩)) :: Fc.is (.int .i16 ((rd t32 t34).f_VY)) :: Fc.is (.int .i64 (w64 ((rd t32 t34).f_VY))) :: []) mixed (by kernel_rfl) (by kernel_rfl) rfl ⟨(by intro H' m_ hH hm_ hu_ hX_; refine depK_nil ?_; exact c_d hm_ rfl (d_move (v := v62) rfl) (by exact ⟨rfl, rfl⟩)), (by intro H' m_ hH hm_ hu_ hX_; refine depK_nil ?_; exact c_d hm_ rfl (d_fld (o' := 4) Tryd.underlying70 rfl sz38 rfl rfl rfl) (by exact ⟨rfl, rfl⟩)), (by intro H' m_ hH hm_ hu_ hX_; rintro _ ⟨rfl, _⟩; refine depK_nil ?_; have n_4 := hX_.1 4 (by kernel_rfl) (by decide); exact c_de hm_ (by exact chL_none ⟨n_4, trivial⟩) rfl (d_loado (v := .int .i16 ((rd t32 t34).f_VX)) ty38 rfl .here rfl rfl rfl rfl) (by exact ⟨rfl, rfl⟩)), (by intro H' m_ hH hm_ hu_ hX_; rintro _ ⟨rfl, _⟩; refine depK_nil ?_; exact c_d hm_ rfl (d_conv (c := w64 ((rd t32 t34).f_VX)) Tryd.underlying38 Tryd.underlying2 rfl rfl) (by exact ⟨rfl, rfl⟩)), (by intro H' m_ hH hm_ hu_ hX_; rintro _ ⟨rfl, _⟩ _ ⟨rfl, _⟩; refine depK_nil ?_; have n_4 := hm_; exact c_w rfl (fun l_ => by exact chL_w (pre := []) (c := 4) (post := []) (by decide) trivial) (o_call co33 (vs := [v62, .int .i64 (w64 ((rd t32 t34).f_VX)), .int .i64 2]) rfl (ct_att (F := fun z_ => some (b26, .cells ⟨[.int .u16 ((rd t32 t34).f_ID), .int .i64 ((rd t32 t34).f_Time), .int .i32 ((rd t32 t34).f_X), .int .i32 ((rd t32 t34).f_Y), .int .i16 ((rd t32 t34).f_VX), .int .i16 ((rd t32 t34).f_VY), .int .u8 ((rd t32 t34).f_State)]⟩ 70 (0, 0)) :: z_ :: L) (cat062_lay.calls k hy68 (h66.mono hH)) (.there .here) (fun _ => (.there .here)))) (by exact chL_none ⟨n_4, trivial⟩) (by rintro v69 H70 _ ⟨i72, rfl, e71, h73⟩; exact ⟨e71, _, rfl, v69, i72, rfl, rfl, h73⟩)), (by intro H' m_ hH hm_ hu_ hX_; refine depK_nil ?_; exact c_d hm_ rfl (d_fld (o' := 5) Tryd.underlying70 rfl sz38 rfl rfl rfl) (by exact ⟨rfl, rfl⟩)), (by intro H' m_ hH hm_ hu_ hX_; rintro _ ⟨rfl, _⟩; refine depK_nil ?_; exact (hX_.2.2 4 (by decide)).elim (fun n_4 => by exact c_de hm_ (by exact chL_none ⟨n_4, trivial⟩) rfl (d_loado (v := .int .i16 ((rd t32 t34).f_VY)) ty38 rfl .here rfl rfl rfl rfl) (by exact ⟨rfl, rfl⟩)) (fun h_ => by obtain ⟨_, ⟨_, e_4, v69, i72, rfl, rfl, h73⟩⟩ := h_; exact c_de hm_ (by exact chL_at (pre := []) (c := 4) (post := []) trivial e_4) rfl (d_loado (v := .int .i16 ((rd t32 t34).f_VY)) ty38 rfl .here rfl rfl rfl rfl) (by exact ⟨rfl, rfl⟩))), (by intro H' m_ hH hm_ hu_ hX_; rintro _ ⟨rfl, _⟩; refine depK_nil ?_; exact c_d hm_ rfl (d_conv (c := w64 ((rd t32 t34).f_VY)) Tryd.underlying38 Tryd.underlying2 rfl rfl) (by exact ⟨rfl, rfl⟩)), trivial⟩ ?_ rfl
  intro H74 e75
  rintro _ _ ⟨rfl, rfl⟩ _ _ ⟨rfl, rfl⟩ _ _ ⟨rfl, rfl⟩ _ _ ⟨rfl, rfl⟩ _ _ ⟨_, rfl, v69, i72, rfl, rfl, h73⟩ _ _ ⟨rfl, rfl⟩ _ _ ⟨rfl, rfl⟩ _ _ ⟨rfl, rfl⟩
  refine w_it (L' := some (b26, .cells ⟨[.int .u16 ((rd t32 t34).f_ID), .int .i64 ((rd t32 t34).f_Time), .int .i32 ((rd t32 t34).f_X), .int .i32 ((rd t32 t34).f_Y), .int .i16 ((rd t32 t34).f_VX), .int .i16 ((rd t32 t34).f_VY), .int .u8 ((rd t32 t34).f_State)]⟩ 70 (0, 0)) :: i72 :: L) rfl ?_
  obtain ⟨y76, hy77, he⟩ := bs he
  refine w_a rfl (o_call co33 (vs := [v69, .int .i64 (w64 ((rd t32 t34).f_VY)), .int .i64 2]) rfl (ct_att (F := fun z_ => some (b26, .cells ⟨[.int .u16 ((rd t32 t34).f_ID), .int .i64 ((rd t32 t34).f_Time), .int .i32 ((rd t32 t34).f_X), .int .i32 ((rd t32 t34).f_Y), .int .i16 ((rd t32 t34).f_VX), .int .i16 ((rd t32 t34).f_VY), .int .u8 ((rd t32 t34).f_State)]⟩ 70 (0, 0)) :: z_ :: L) (cat062_lay.calls k hy77 h73) (.there .here) (fun _ => (.there .here)))) ?_
  rintro v78 H79 _ ⟨i81, rfl, e80, h82⟩
  refine wA v78 rfl rfl <| w_done ?_
  obtain ⟨y93, hy94, he⟩ := bs he
  refine w_chain (p := 9) (tl := [9, 10]) [4] (some (b26, .cells ⟨[.int .u16 ((rd t32 t34).f_ID), .int .i64 ((rd t32 t34).f_Time), .int .i32 ((rd t32 t34).f_X), .int .i32 ((rd t32 t34).f_Y), .int .i16 ((rd t32 t34).f_VX), .int .i16 ((rd t32 t34).f_VY), .int .u8 ((rd t32 t34).f_State)]⟩ 70 (0, 0)) :: i81 :: L) [[], [], [(1, some 67)], [(2, some 68)], [(0, some 66), (3, some 69)], [], [(5, some 71)], [(6, some 72)], [(7, some 73)]] [some 66, some 67, some 68, some 69, some 70, some 71, some 72, some 73, some 74] (Fc.is (v78) :: Fc.is (.pointer (some ⟨b26, 0, none⟩)) :: Fc.is (.int .u16 ((rd t32 t34).f_ID)) :: Fc.is (.int .i64 (w64 ((rd t32 t34).f_ID))) :: Fc.ch (fun H v l_ => ∃ v95 : Value, ∃ i98 : Item', v95 = v ∧ l_ = some (b26, .cells ⟨[.int .u16 ((rd t32 t34).f_ID), .int .i64 ((rd t32 t34).f_Time), .int .i32 ((rd t32 t34).f_X), .int .i32 ((rd t32 t34).f_Y), .int .i16 ((rd t32 t34).f_VX), .int .i16 ((rd t32 t34).f_VY), .int .u8 ((rd t32 t34).f_State)]⟩ 70 (0, 0)) :: i98 :: L ∧ Sl kU8 H 5 i98 v95 y93) (by rintro _ _ _ _ hle ⟨v95, i98, rfl, rfl, h99⟩; exact ⟨v95, i98, rfl, rfl, h99.mono hle⟩) :: Fc.is (.pointer (some ⟨b26, 6, none⟩)) :: Fc.is (.int .u8 ((rd t32 t34).f_State)) :: Fc.is (.int .u8 ((((rd t32 t34).f_State) * 2) % 256)) :: Fc.of (fun H v => ∃ v100 : Value, v100 = v ∧ Ro kU8 H v100 [(((rd t32 t34).f_State) * 2) % 256]) (by rintro _ _ _ hle ⟨v100, rfl, h102⟩; exact ⟨v100, rfl, h102.mono hle⟩) :: []) mixed (by kernel_rfl) (by kernel_rfl) rfl ⟨(by intro H' m_ hH hm_ hu_ hX_; refine depK_nil ?_; exact c_d hm_ rfl (d_move (v := v78) rfl) (by exact ⟨rfl, rfl⟩)), (by intro H' m_ hH hm_ hu_ hX_; refine depK_nil ?_; exact c_d hm_ rfl (d_fld (o' := 0) Tryd.underlying70 rfl sz22 rfl rfl rfl) (by exact ⟨rfl, rfl⟩)), (by intro H' m_ hH hm_ hu_ hX_; rintro _ ⟨rfl, _⟩; refine depK_nil ?_; have n_4 := hX_.1 4 (by kernel_rfl) (by decide); exact c_de hm_ (by exact chL_none ⟨n_4, trivial⟩) rfl (d_loado (v := .int .u16 ((rd t32 t34).f_ID)) ty22 rfl .here rfl rfl rfl rfl) (by exact ⟨rfl, rfl⟩)), (by intro H' m_ hH hm_ hu_ hX_; rintro _ ⟨rfl, _⟩; refine depK_nil ?_; exact c_d hm_ rfl (d_conv (c := w64 ((rd t32 t34).f_ID)) Tryd.underlying22 Tryd.underlying2 rfl rfl) (by exact ⟨rfl, rfl⟩)), (by intro H' m_ hH hm_ hu_ hX_; rintro _ ⟨rfl, _⟩ _ ⟨rfl, _⟩; refine depK_nil ?_; have n_4 := hm_; exact c_w rfl (fun l_ => by exact chL_w (pre := []) (c := 4) (post := []) (by decide) trivial) (o_call co33 (vs := [v78, .int .i64 (w64 ((rd t32 t34).f_ID)), .int .i64 2]) rfl (ct_att (F := fun z_ => some (b26, .cells ⟨[.int .u16 ((rd t32 t34).f_ID), .int .i64 ((rd t32 t34).f_Time), .int .i32 ((rd t32 t34).f_X), .int .i32 ((rd t32 t34).f_Y), .int .i16 ((rd t32 t34).f_VX), .int .i16 ((rd t32 t34).f_VY), .int .u8 ((rd t32 t34).f_State)]⟩ 70 (0, 0)) :: z_ :: L) (cat062_lay.calls k hy94 (h82.mono hH)) (.there .here) (fun _ => (.there .here)))) (by exact chL_none ⟨n_4, trivial⟩) (by rintro v95 H96 _ ⟨i98, rfl, e97, h99⟩; exact ⟨e97, _, rfl, v95, i98, rfl, rfl, h99⟩)), (by intro H' m_ hH hm_ hu_ hX_; refine depK_nil ?_; exact c_d hm_ rfl (d_fld (o' := 6) Tryd.underlying70 rfl sz5 rfl rfl rfl) (by exact ⟨rfl, rfl⟩)), (by intro H' m_ hH hm_ hu_ hX_; rintro _ ⟨rfl, _⟩; refine depK_nil ?_; exact (hX_.2.2 4 (by decide)).elim (fun n_4 => by exact c_de hm_ (by exact chL_none ⟨n_4, trivial⟩) rfl (d_loado (v := .int .u8 ((rd t32 t34).f_State)) ty5 rfl .here rfl rfl rfl rfl) (by exact ⟨rfl, rfl⟩)) (fun h_ => by obtain ⟨_, ⟨_, e_4, v95, i98, rfl, rfl, h99⟩⟩ := h_; exact c_de hm_ (by exact chL_at (pre := []) (c := 4) (post := []) trivial e_4) rfl (d_loado (v := .int .u8 ((rd t32 t34).f_State)) ty5 rfl .here rfl rfl rfl rfl) (by exact ⟨rfl, rfl⟩))), (by intro H' m_ hH hm_ hu_ hX_; rintro _ ⟨rfl, _⟩; refine depK_nil ?_; exact c_d hm_ rfl (d_shl (c := (((rd t32 t34).f_State) * 2) % 256) rfl rfl (by decide) rfl) (by exact ⟨rfl, rfl⟩)), (by intro H' m_ hH hm_ hu_ hX_; rintro _ ⟨rfl, _⟩; refine depK_nil ?_; exact c_k hm_ rfl (opa_freeze (o_buildSlice' (kd := kU8) (css := [[.int .u8 ((((rd t32 t34).f_State) * 2) % 256)]]) (xs := [(((rd t32 t34).f_State) * 2) % 256]) (parts := [(0, .int .u8 ((((rd t32 t34).f_State) * 2) % 256))]) Tryd.underlying26 ti5 rfl ⟨_, _, rfl, rfl, rfl⟩ ⟨rfl, trivial⟩ rfl (by decide))) (by rintro v100 H103 _ ⟨rfl, e104, h102⟩; exact ⟨rfl, e104, ⟨⟨v100, rfl, h102⟩, rfl⟩⟩)), trivial⟩ ?_ rfl
  intro H105 e106
  rintro _ _ ⟨rfl, rfl⟩ _ _ ⟨rfl, rfl⟩ _ _ ⟨rfl, rfl⟩ _ _ ⟨rfl, rfl⟩ _ _ ⟨_, rfl, v95, i98, rfl, rfl, h99⟩ _ _ ⟨rfl, rfl⟩ _ _ ⟨rfl, rfl⟩ _ _ ⟨rfl, rfl⟩ _ _ ⟨⟨v100, rfl, h102⟩, rfl⟩
  refine w_it (L' := some (b26, .cells ⟨[.int .u16 ((rd t32 t34).f_ID), .int .i64 ((rd t32 t34).f_Time), .int .i32 ((rd t32 t34).f_X), .int .i32 ((rd t32 t34).f_Y), .int .i16 ((rd t32 t34).f_VX), .int .i16 ((rd t32 t34).f_VY), .int .u8 ((rd t32 t34).f_State)]⟩ 70 (0, 0)) :: i98 :: L) rfl ?_
  obtain ⟨c107, he⟩ := rq he
  refine w_a rfl (o_append' (kd := kU8) (F := fun z_ => some (b26, .cells ⟨[.int .u16 ((rd t32 t34).f_ID), .int .i64 ((rd t32 t34).f_Time), .int .i32 ((rd t32 t34).f_X), .int .i32 ((rd t32 t34).f_Y), .int .i16 ((rd t32 t34).f_VX), .int .i16 ((rd t32 t34).f_VY), .int .u8 ((rd t32 t34).f_State)]⟩ 70 (0, 0)) :: z_ :: L) Tryd.underlying26 Tryd.underlying26 ti5 rfl (by first | omega | (simp only [List.nil_append, List.length_cons, List.length_nil]; omega)) rfl rfl h99 h102.src (fun _ => (.there .here))) ?_
  rintro v108 _ _ ⟨i109, rfl, rfl, h110⟩
  refine wA v108 rfl rfl <| w_done <| w_inBlock <| w_region rfl <| w_d rfl (d_add (c := w64 (t34 + 1)) rfl rfl rfl) <| wM (.int .i64 (w64 (t34 + 1))) rfl rfl <| w_done <| w_inLoop <| w_del .here <| w_sl 0 (.int .u16 source) rfl <| w_sl 4 (v_t4) rfl <| w_sl 5 (errV 73 t5) rfl ?_
  refine w_sl 8 (v108) rfl <| w_sl 32 (v_t32) rfl <| w_sl 33 (.int .i64 t33) rfl <| w_sl 34 (.int .i64 (w64 (t34 + 1))) rfl <| hh.l1 (hle.trans (((((((e30.trans e41).trans e48).trans e59).trans e64).trans e75).trans e80).trans e106)) he (h_t4.mono (((((((e30.trans e41).trans e48).trans e59).trans e64).trans e75).trans e80).trans e106)) h110 (h_t32.mono (((((((e30.trans e41).trans e48).trans e59).trans e64).trans e75).trans e80).trans e106))
 ·
  refine w_else rfl (df c22) <| w_exit rfl <| wR rfl <| wM v_out rfl rfl <| wA v_out rfl rfl <| wA (errV 73 none) rfl rfl <| w_done <| w_freeze h_out .here ?_
  intro H111 e112 h113
  obtain rfl := sj he
  refine w_return fn_9 rs_9 (.tmp (v := v_out) rfl (.tmp (v := errV 73 none) rfl .nil)) <| ⟨⟨[_], rfl⟩, hle.trans e112, ⟨v_out, rfl, h113⟩⟩
theorem cat062_Encode.ok : ∀ k, cat062_Encode.OK (cat062_Encode.hs k)
 | 0 => ⟨(by intros; exact nomatch (show none = some _ from by assumption)), (by intros; exact nomatch (show none = some _ from by assumption))⟩
 | k + 1 => ⟨cat062_Encode.b0_ok (k := k) (cat062_Encode.ok k), cat062_Encode.b1_ok (k := k) (cat062_Encode.ok k)⟩
theorem cat062_Encode.calls (k : Nat) {H : Hp} {L : Items} {source : Int} {l : List cat062_Report} {v0_l : Value} {r : (List Int) × (Option Int)} (he : cat062_Encode.f k source l = some r) (h0_l : Src k_cat062_Report H L v0_l l) : Ct Tryd.prog 9 ⟨[.int .u16 source, v0_l]⟩ H L (cR H L (cat062_Encode.out r)) := by
 refine ct_out (O := cat062_Encode.out r) ?_
 have hle : H.le H := .refl _
 have hh := cat062_Encode.ok k
 unfold cat062_Encode.f at he
 refine ct_enter (args := [.int .u16 source, v0_l]) fn_9 rfl nt_9 rfl <| wR rfl <| wA (.slice none 0 0) rfl rfl <| wA (errV 73 none) rfl rfl <| wE <| wR rfl <| wM v0_l rfl rfl <| w_d rfl (d_len Tryd.underlying31 rfl h0_l) <| wM (.int .i64 0) rfl rfl ?_
 refine w_done <| w_block <| w_loop <| w_sl 0 (.int .u16 source) rfl <| w_sl 1 (v0_l) rfl <| w_sl 4 (.slice none 0 0) rfl <| w_sl 5 (errV 73 none) rfl <| w_sl 11 (v0_l) rfl <| w_sl 12 (.int .i64 (l.length : Int)) rfl <| w_sl 13 (.int .i64 0) rfl <| hh.l0 hle he h0_l (ro_nil _ _) h0_l
noncomputable def cat062_framed.C : Code := (Tryd.f51.body).getD .skip
def cat062_framed.out (r : (Option Int)) (H : Hp) (v : Value) : Prop := v = errV 73 r
noncomputable def cat062_framed.f (k : Nat) (b : List Int) : Option (Option Int) := if 16384 < (b.length : Int) then (some (some 2)) else (if (b.length : Int) < 3 then (some (some 4)) else (if (0 : Int) ≤ 0 ∧ 0 < (b.length : Int) then (if (!(!decide ((rd b 0) = 62))) = true → (0 : Int) ≤ 1 ∧ 1 < (b.length : Int) then (if (!(!decide ((rd b 0) = 62))) = true → (0 : Int) ≤ 2 ∧ 2 < (b.length : Int) then (if ((!decide ((rd b 0) = 62)) || (!decide ((ior .i64 (w64 ((w64 (rd b 1)) * 256)) (w64 (rd b 2))) = (b.length : Int)))) = true then (some (some 3)) else (some (none))) else none) else none) else none))
theorem cat062_framed.mono : ∀ k y0, LeO (cat062_framed.f k y0) (cat062_framed.f (k + 1) y0) := fun k _ => by unfold cat062_framed.f; exact (LeO.ite (LeO.refl _) (LeO.ite (LeO.refl _) (LeO.ite (LeO.ite (LeO.ite (LeO.ite (LeO.refl _) (LeO.refl _)) (LeO.refl _)) (LeO.refl _)) (LeO.refl _))))
theorem cat062_framed.calls (k : Nat) {H : Hp} {L : Items} {b : List Int} {v0_b : Value} {r : (Option Int)} (he : cat062_framed.f k b = some r) (h0_b : Src kU8 H L v0_b b) : Ct Tryd.prog 51 ⟨[v0_b]⟩ H L (fun v H' L' => L = L' ∧ H = H' ∧ v = errV 73 r) := by
 refine ct_outs (O := cat062_framed.out r) (fun _ _ h => h) ?_
 have hle : H.le H := .refl _
 unfold cat062_framed.f at he
 refine ct_enter (args := [v0_b]) fn_51 rfl nt_51 rfl <| wR rfl <| wA (errV 73 none) rfl rfl <| wE <| w_block <| wR rfl <| wM v0_b rfl rfl <| w_d rfl (d_len Tryd.underlying26 rfl h0_b) <| w_d rfl (d_gtr rfl rfl) ?_
 refine wA (.bool (decide (16384 < (b.length : Int)))) rfl rfl <| w_done ?_
 rcases its he with ⟨c1, he⟩ | ⟨c1, he⟩
 ·
  refine w_then rfl (dt c1) <| wR rfl <| w_d rfl (d_iface (v := .int .i64 2) Tryd.underlying73 rfl rfl) <| wA (errV 73 (some 2)) rfl rfl <| w_done ?_
  obtain rfl := sj he
  refine w_return fn_51 rs_51 (.tmp (v := errV 73 (some 2)) rfl .nil) <| ⟨⟨[], rfl⟩, hle, rfl⟩
 ·
  refine w_else rfl (df c1) <| wR rfl <| wM v0_b rfl rfl <| w_d rfl (d_len Tryd.underlying26 rfl h0_b) <| w_d rfl (d_lss rfl rfl) <| wA (.bool (decide ((b.length : Int) < 3))) rfl rfl <| w_done ?_
  rcases its he with ⟨c2, he⟩ | ⟨c2, he⟩
  ·
   refine w_then rfl (dt c2) <| wR rfl <| w_d rfl (d_iface (v := .int .i64 4) Tryd.underlying73 rfl rfl) <| wA (errV 73 (some 4)) rfl rfl <| w_done ?_
   obtain rfl := sj he
   refine w_return fn_51 rs_51 (.tmp (v := errV 73 (some 4)) rfl .nil) <| ⟨⟨[], rfl⟩, hle, rfl⟩
  ·
   refine w_else rfl (df c2) <| w_seq ?_
   obtain ⟨c3, he⟩ := rq he
   obtain ⟨c6, he⟩ := rq he
   obtain ⟨c12, he⟩ := rq he
   refine w_drawn (p := 17) (tl := [17, 18, 19]) [[], [(0, some 14)], [(1, some 15)], [(2, some 16)], [(3, some 17)], [(4, some 18)], [(4, some 18), (5, some 19)], [(4, some 18), (6, some 20)], [(4, some 18), (7, some 21)], [(4, some 18), (8, some 22)], [(4, some 18)], [(4, some 18), (10, some 24)], [(4, some 18), (11, some 25)], [(4, some 18), (12, some 26)], [(4, some 18), (9, some 23), (13, some 27)], [(4, some 18)], [(4, some 18), (15, some 29)]] [some 14, some 15, some 16, some 17, some 18, some 19, some 20, some 21, some 22, some 23, some 24, some 25, some 26, some 27, some 28, some 29, some 30] (fctF (.is (v0_b) :: .is (.pointer (some (pel v0_b 0 1))) :: .is (.int .u8 (rd b 0)) :: .is (.bool (!decide ((rd b 0) = 62))) :: .is (.bool (!decide ((rd b 0) = 62))) :: .is (cond (!(!decide ((rd b 0) = 62))) v0_b undef) :: .is (cond (!(!decide ((rd b 0) = 62))) (.pointer (some (pel v0_b 1 1))) undef) :: .is (cond (!(!decide ((rd b 0) = 62))) (.int .u8 (rd b 1)) undef) :: .is (cond (!(!decide ((rd b 0) = 62))) (.int .i64 (w64 (rd b 1))) undef) :: .is (cond (!(!decide ((rd b 0) = 62))) (.int .i64 (w64 ((w64 (rd b 1)) * 256))) undef) :: .is (cond (!(!decide ((rd b 0) = 62))) v0_b undef) :: .is (cond (!(!decide ((rd b 0) = 62))) (.pointer (some (pel v0_b 2 1))) undef) :: .is (cond (!(!decide ((rd b 0) = 62))) (.int .u8 (rd b 2)) undef) :: .is (cond (!(!decide ((rd b 0) = 62))) (.int .i64 (w64 (rd b 2))) undef) :: .is (cond (!(!decide ((rd b 0) = 62))) (.int .i64 (ior .i64 (w64 ((w64 (rd b 1)) * 256)) (w64 (rd b 2)))) undef) :: .is (cond (!(!decide ((rd b 0) = 62))) v0_b undef) :: .is (cond (!(!decide ((rd b 0) = 62))) (.int .i64 (b.length : Int)) undef) :: [])) (fun m_ => L) (fun _ => none) mixed (by kernel_rfl) (by kernel_rfl) rfl (fct_mono (by kernel_rfl)) ⟨(fun H' m_ hH hm_ hu_ => dn <| s_d (m_ 0) rfl (d_move (v := v0_b) rfl) (by exact rfl) rfl), (by rintro H' m_ hH hm_ hu_ _ rfl; exact dn <| s_d (m_ 1) rfl (d_index (sz := 1) Tryd.underlying26 sz5 rfl (h0_b.mono hH) rfl c3) (by exact rfl) rfl), (by rintro H' m_ hH hm_ hu_ _ rfl; exact dn <| s_d (m_ 2) rfl (d_ldint ty5 rfl (h0_b.mono hH) c3) (by exact rfl) rfl), (by rintro H' m_ hH hm_ hu_ _ rfl; exact dn <| s_d (m_ 3) rfl (d_neq rfl rfl) (by exact rfl) rfl), (by rintro H' m_ hH hm_ hu_ _ rfl; exact dn <| s_d (m_ 4) rfl (d_move (v := .bool (!decide ((rd b 0) = 62))) rfl) (by exact rfl) rfl), (by rintro H' m_ hH hm_ hu_ _ rfl; exact dn <| s_g (g := !(!decide ((rd b 0) = 62))) (m_ 5) rfl rfl rfl wn_f (fun g4 => d_move (v := v0_b) rfl) rfl (by exact fun g_ => cvt g_) (by exact fun g_ => cnt g_)), (by rintro H' m_ hH hm_ hu_ _ rfl _ rfl; exact dn <| s_g (g := !(!decide ((rd b 0) = 62))) (m_ 6) rfl rfl rfl wn_f (fun g5 => d_index (sz := 1) Tryd.underlying26 sz5 (cvt g5) (h0_b.mono hH) rfl (c6 g5)) rfl (by exact fun g_ => cvt g_) (by exact fun g_ => cnt g_)), (by rintro H' m_ hH hm_ hu_ _ rfl _ rfl; exact dn <| s_g (g := !(!decide ((rd b 0) = 62))) (m_ 7) rfl rfl rfl wn_f (fun g7 => d_ldint ty5 (cvt g7) (h0_b.mono hH) (c6 g7)) rfl (by exact fun g_ => cvt g_) (by exact fun g_ => cnt g_)), (by rintro H' m_ hH hm_ hu_ _ rfl _ rfl; exact dn <| s_g (g := !(!decide ((rd b 0) = 62))) (m_ 8) rfl rfl rfl wn_f (fun g8 => d_conv (c := w64 (rd b 1)) Tryd.underlying5 Tryd.underlying3 (cvt g8) rfl) rfl (by exact fun g_ => cvt g_) (by exact fun g_ => cnt g_)), (by rintro H' m_ hH hm_ hu_ _ rfl _ rfl; exact dn <| s_g (g := !(!decide ((rd b 0) = 62))) (m_ 9) rfl rfl rfl wn_f (fun g9 => d_shl (c := w64 ((w64 (rd b 1)) * 256)) (cvt g9) rfl (by decide) rfl) rfl (by exact fun g_ => cvt g_) (by exact fun g_ => cnt g_)), (by rintro H' m_ hH hm_ hu_ _ rfl; exact dn <| s_g (g := !(!decide ((rd b 0) = 62))) (m_ 10) rfl rfl rfl wn_f (fun g10 => d_move (v := v0_b) rfl) rfl (by exact fun g_ => cvt g_) (by exact fun g_ => cnt g_)), (by rintro H' m_ hH hm_ hu_ _ rfl _ rfl; exact dn <| s_g (g := !(!decide ((rd b 0) = 62))) (m_ 11) rfl rfl rfl wn_f (fun g11 => d_index (sz := 1) Tryd.underlying26 sz5 (cvt g11) (h0_b.mono hH) rfl (c12 g11)) rfl (by exact fun g_ => cvt g_) (by exact fun g_ => cnt g_)), (by rintro H' m_ hH hm_ hu_ _ rfl _ rfl; exact dn <| s_g (g := !(!decide ((rd b 0) = 62))) (m_ 12) rfl rfl rfl wn_f (fun g13 => d_ldint ty5 (cvt g13) (h0_b.mono hH) (c12 g13)) rfl (by exact fun g_ => cvt g_) (by exact fun g_ => cnt g_)), (by rintro H' m_ hH hm_ hu_ _ rfl _ rfl; exact dn <| s_g (g := !(!decide ((rd b 0) = 62))) (m_ 13) rfl rfl rfl wn_f (fun g14 => d_conv (c := w64 (rd b 2)) Tryd.underlying5 Tryd.underlying3 (cvt g14) rfl) rfl (by exact fun g_ => cvt g_) (by exact fun g_ => cnt g_)), (by rintro H' m_ hH hm_ hu_ _ rfl _ rfl _ rfl; exact dn <| s_g (g := !(!decide ((rd b 0) = 62))) (m_ 14) rfl rfl rfl wn_f (fun g15 => d_bor (cvt g15) (cvt g15)) rfl (by exact fun g_ => cvt g_) (by exact fun g_ => cnt g_)), (by rintro H' m_ hH hm_ hu_ _ rfl; exact dn <| s_g (g := !(!decide ((rd b 0) = 62))) (m_ 15) rfl rfl rfl wn_f (fun g16 => d_move (v := v0_b) rfl) rfl (by exact fun g_ => cvt g_) (by exact fun g_ => cnt g_)), (by rintro H' m_ hH hm_ hu_ _ rfl _ rfl; exact dn <| s_g (g := !(!decide ((rd b 0) = 62))) (m_ 16) rfl rfl rfl wn_f (fun g17 => d_len Tryd.underlying26 (cvt g17) (h0_b.mono hH)) rfl (by exact fun g_ => cvt g_) (by exact fun g_ => cnt g_)), trivial⟩ ?_
   intro H18 e19
   rintro _ _ rfl _ _ rfl _ _ rfl _ _ rfl _ _ rfl _ _ rfl _ _ rfl _ _ rfl _ _ rfl _ _ rfl _ _ rfl _ _ rfl _ _ rfl _ _ rfl _ _ rfl _ _ rfl _ _ rfl
   refine w_g (g := !(!decide ((rd b 0) = 62))) rfl rfl rfl wn_f (fun g20 => d_neq (cvt g20) (cvt g20)) <| w_d rfl (d_or' (b := (!decide ((rd b 0) = 62))) (p := (!decide ((ior .i64 (w64 ((w64 (rd b 1)) * 256)) (w64 (rd b 2))) = (b.length : Int)))) rfl rfl rfl) <| wA (.bool ((!decide ((rd b 0) = 62)) || (!decide ((ior .i64 (w64 ((w64 (rd b 1)) * 256)) (w64 (rd b 2))) = (b.length : Int))))) rfl rfl <| w_done ?_
   rcases its he with ⟨c21, he⟩ | ⟨c21, he⟩
   ·
    refine w_then rfl c21 <| wR rfl <| w_d rfl (d_iface (v := .int .i64 3) Tryd.underlying73 rfl rfl) <| wA (errV 73 (some 3)) rfl rfl <| w_done ?_
    obtain rfl := sj he
    refine w_return fn_51 rs_51 (.tmp (v := errV 73 (some 3)) rfl .nil) <| ⟨⟨[], rfl⟩, hle.trans e19, rfl⟩
   ·
    refine w_else rfl (Bool.eq_false_iff.2 c21) <| w_skip <| w_inBlock <| wR rfl <| wA (errV 73 none) rfl rfl <| w_done ?_
    obtain rfl := sj he
    refine w_return fn_51 rs_51 (.tmp (v := errV 73 none) rfl .nil) <| ⟨⟨[], rfl⟩, hle.trans e19, rfl⟩
noncomputable def cat062_taker_number.C : Code := (Tryd.f68.body).getD .skip
def cat062_taker_number.out (b_t : Nat) (its_ : Items) (r : Int × cat062_taker) (H : Hp) (v : Value) : Prop := ∃ v0 : Value, v = .int .i64 r.1 ∧ its_ = [some (b_t, .cells ⟨[v0]⟩ 125 (0, 0))] ∧ Ro kU8 H v0 r.2.f_b
abbrev cat062_taker_number.R (b_t : Nat) (H0 : Hp) (L : Items) (r : Int × cat062_taker) : Value → Hp → Items → Prop := fun v H' L' => ∃ p its_, L' = p ++ (its_ ++ L) ∧ H0.le H' ∧ cat062_taker_number.out b_t its_ r H' v
structure cat062_taker_number.Hs where
 l0 : (List Int) → Int → Int → (List Int) → Int → Int → Option (Int × cat062_taker)
noncomputable def cat062_taker_number.b0 (k : Nat) (h : cat062_taker_number.Hs)  (t : List Int) (bytes : Int) (n : Int) (t13 : List Int) (t14 : Int) (t15 : Int) : Option (Int × cat062_taker) := if t15 < t14 then (if (0 : Int) ≤ t15 ∧ t15 < (t13.length : Int) then (h.l0 t bytes (ior .i64 (w64 (n * 256)) (w64 (rd t13 t15))) t13 t14 (w64 (t15 + 1))) else none) else (if (0 : Int) ≤ bytes ∧ (bytes : Int) ≤ (t.length : Int) ∧ (t.length : Int) ≤ (t.length : Int) then (some (n, (⟨cut t bytes (t.length : Int)⟩ : cat062_taker))) else none)
noncomputable def cat062_taker_number.hs : Nat → cat062_taker_number.Hs
 | 0 => ⟨fun _ _ _ _ _ _ => none⟩
 | k + 1 => ⟨fun x0 x1 x2 x3 x4 x5 => cat062_taker_number.b0 k (cat062_taker_number.hs k) x0 x1 x2 x3 x4 x5⟩
noncomputable def cat062_taker_number.f (k : Nat) (t : cat062_taker) (bytes : Int) : Option (Int × cat062_taker) := (fun h : cat062_taker_number.Hs => if (0 : Int) ≤ 0 ∧ (0 : Int) ≤ bytes ∧ bytes ≤ (t.f_b.length : Int) then (h.l0 t.f_b bytes 0 (cut t.f_b 0 bytes) ((cut t.f_b 0 bytes).length : Int) 0) else none) (cat062_taker_number.hs k)
structure cat062_taker_number.LE (h h' : cat062_taker_number.Hs) : Prop where
 l0 : ∀ y0 y1 y2 y3 y4 y5, LeO (h.l0 y0 y1 y2 y3 y4 y5) (h'.l0 y0 y1 y2 y3 y4 y5)
theorem cat062_taker_number.b0_mono {k : Nat} {h h' : cat062_taker_number.Hs} (hl : cat062_taker_number.LE h h') : ∀ y0 y1 y2 y3 y4 y5, LeO (cat062_taker_number.b0 k h y0 y1 y2 y3 y4 y5) (cat062_taker_number.b0 (k + 1) h' y0 y1 y2 y3 y4 y5) := fun _ _ _ _ _ _ => (LeO.ite (LeO.ite (hl.l0 _ _ _ _ _ _) (LeO.refl _)) (LeO.ite (LeO.refl _) (LeO.refl _)))
theorem cat062_taker_number.hs_mono : ∀ k, cat062_taker_number.LE (cat062_taker_number.hs k) (cat062_taker_number.hs (k + 1))
 | 0 => ⟨fun _ _ _ _ _ _ => LeO.none _⟩
 | k + 1 => ⟨cat062_taker_number.b0_mono (k := k) (cat062_taker_number.hs_mono k)⟩
theorem cat062_taker_number.mono : ∀ k y0 y1, LeO (cat062_taker_number.f k y0 y1) (cat062_taker_number.f (k + 1) y0 y1) := fun k _ _ => have hl := cat062_taker_number.hs_mono k; by unfold cat062_taker_number.f; exact (LeO.ite (hl.l0 _ _ _ _ _ _) (LeO.refl _))
noncomputable def cat062_taker_number.Kl0 : List Item := .code (lopB (blkB (seqR (seqL (seqR (seqR cat062_taker_number.C)))))) :: .inLoop (lopB (blkB (seqR (seqL (seqR (seqR cat062_taker_number.C)))))) :: .inBlock 0 :: .code (seqR (seqR (seqR cat062_taker_number.C))) :: []
structure cat062_taker_number.OK (h : cat062_taker_number.Hs) : Prop where
 l0 : ∀ {H0 H : Hp} {L : Items} {r : Int × cat062_taker} {jk_ : Nat → Value} {t : List Int} {bytes : Int} {n : Int} {t13 : List Int} {t14 : Int} {t15 : Int} {v_t : Value} {v_t13 : Value} {b_t : Nat} (_ : H0.le H) (_he : h.l0 t bytes n t13 t14 t15 = some r) (_h_t : Ro kU8 H v_t t) (_h_t13 : Ro kU8 H v_t13 t13), Wp Tryd.prog 68 35 cat062_taker_number.Kl0 (upd (upd (upd (upd (upd (upd (upd jk_ 0 (.pointer (some ⟨b_t, 0, none⟩))) 1 (.int .i64 bytes)) 4 (.int .i64 0)) 5 (.int .i64 n)) 13 (v_t13)) 14 (.int .i64 t14)) 15 (.int .i64 t15)) H (some (b_t, .cells ⟨[v_t]⟩ 125 (0, 0)) :: L) (cat062_taker_number.R b_t H0 L r)
theorem cat062_taker_number.b0_ok {k : Nat} {h : cat062_taker_number.Hs} (hh : cat062_taker_number.OK h) {H0 H : Hp} {L : Items} {r : Int × cat062_taker} {jk_ : Nat → Value} {t : List Int} {bytes : Int} {n : Int} {t13 : List Int} {t14 : Int} {t15 : Int} {v_t : Value} {v_t13 : Value} {b_t : Nat} (hle : H0.le H) (he : cat062_taker_number.b0 k h t bytes n t13 t14 t15 = some r) (h_t : Ro kU8 H v_t t) (h_t13 : Ro kU8 H v_t13 t13) : Wp Tryd.prog 68 35 cat062_taker_number.Kl0 (upd (upd (upd (upd (upd (upd (upd jk_ 0 (.pointer (some ⟨b_t, 0, none⟩))) 1 (.int .i64 bytes)) 4 (.int .i64 0)) 5 (.int .i64 n)) 13 (v_t13)) 14 (.int .i64 t14)) 15 (.int .i64 t15)) H (some (b_t, .cells ⟨[v_t]⟩ 125 (0, 0)) :: L) (cat062_taker_number.R b_t H0 L r) := by
 unfold cat062_taker_number.b0 at he
 unfold cat062_taker_number.Kl0
 refine wR rfl <| w_d rfl (d_lss rfl rfl) <| wE ?_
 rcases its he with ⟨c4, he⟩ | ⟨c4, he⟩
 ·
  refine w_then rfl (dt c4) <| w_skip <| w_seq <| w_block <| wR rfl ?_
  obtain ⟨c5, he⟩ := rq he
  refine w_d rfl (d_index (sz := 1) Tryd.underlying26 sz5 rfl h_t13.src rfl c5) <| w_d rfl (d_ldint ty5 rfl h_t13.src c5) <| wA (.int .u8 (rd t13 t15)) rfl rfl <| w_done <| w_region rfl <| wM (.int .i64 n) rfl rfl <| w_d rfl (d_shl (c := w64 (n * 256)) rfl rfl (by decide) rfl) <| wM (.int .u8 (rd t13 t15)) rfl rfl <| w_d rfl (d_conv (c := w64 (rd t13 t15)) Tryd.underlying5 Tryd.underlying2 rfl rfl) <| w_d rfl (d_bor rfl rfl) <| wA (.int .i64 (ior .i64 (w64 (n * 256)) (w64 (rd t13 t15)))) rfl rfl <| w_done ?_
  refine w_inBlock <| w_region rfl <| w_d rfl (d_add (c := w64 (t15 + 1)) rfl rfl rfl) <| wM (.int .i64 (w64 (t15 + 1))) rfl rfl <| w_done <| w_inLoop <| w_sl 0 (.pointer (some ⟨b_t, 0, none⟩)) rfl <| w_sl 1 (.int .i64 bytes) rfl <| w_sl 4 (.int .i64 0) rfl <| w_sl 5 (.int .i64 (ior .i64 (w64 (n * 256)) (w64 (rd t13 t15)))) rfl <| w_sl 13 (v_t13) rfl <| w_sl 14 (.int .i64 t14) rfl ?_
  refine w_sl 15 (.int .i64 (w64 (t15 + 1))) rfl <| hh.l0 hle he h_t h_t13
 ·
  refine w_else rfl (df c4) <| w_exit rfl <| wR rfl <| wM (.pointer (some ⟨b_t, 0, none⟩)) rfl rfl <| wM (.pointer (some ⟨b_t, 0, none⟩)) rfl rfl <| w_d rfl (d_nilCheck (p := ⟨b_t, 0, none⟩) rfl) <| w_d rfl (d_fld (o' := 0) Tryd.underlying125 rfl sz26 rfl rfl rfl) <| wL v_t ty26 rfl rfl .here rfl rfl <| wM (.int .i64 bytes) rfl rfl ?_
  obtain ⟨c6, he⟩ := rq he
  refine w_a rfl (o_cut (kd := kU8) Tryd.underlying26 sz5 rfl h_t (.inr ⟨_, _, rfl, rfl⟩) (.inl ⟨rfl, rfl⟩) c6) ?_
  rintro v7 _ _ ⟨h8, rfl, rfl⟩
  refine w_d rfl (d_nilCheck (p := ⟨b_t, 0, none⟩) rfl) <| w_d rfl (d_fld (o' := 0) Tryd.underlying125 rfl sz26 rfl rfl rfl) <| w_a0 rfl (o_store (v := v7) sz26 rfl rfl h8.cells rfl (oc (h8.one) oz) .here u1) ?_
  rintro _ _ _ ⟨rfl, rfl, rfl⟩
  refine wQ rfl <| wM (.int .i64 n) rfl rfl <| wA (.int .i64 n) rfl rfl <| w_done ?_
  obtain rfl := sj he
  refine w_return fn_68 rs_68 (.tmp (v := .int .i64 n) rfl .nil) <| ⟨[], [_], rfl, hle, ⟨v7, rfl, rfl, h8⟩⟩
theorem cat062_taker_number.ok : ∀ k, cat062_taker_number.OK (cat062_taker_number.hs k)
 | 0 => ⟨(by intros; exact nomatch (show none = some _ from by assumption))⟩
 | k + 1 => ⟨cat062_taker_number.b0_ok (k := k) (cat062_taker_number.ok k)⟩
theorem cat062_taker_number.calls (k : Nat) {H : Hp} {L : Items} {t : cat062_taker} {bytes : Int} {b_t : Nat} {v0_t : Value} {r : Int × cat062_taker} (he : cat062_taker_number.f k t bytes = some r) (h0_t : Ro kU8 H v0_t t.f_b) : Ct Tryd.prog 68 ⟨[.pointer (some ⟨b_t, 0, none⟩), .int .i64 bytes]⟩ H (some (b_t, .cells ⟨[v0_t]⟩ 125 (0, 0)) :: L) (fun v H' L' => ∃ its_, L' = its_ ++ L ∧ H.le H' ∧ cat062_taker_number.out b_t its_ r H' v) := by
 refine ct_ptr ?_
 have hle : H.le H := .refl _
 have hh := cat062_taker_number.ok k
 unfold cat062_taker_number.f at he
 refine ct_enter (args := [.pointer (some ⟨b_t, 0, none⟩), .int .i64 bytes]) fn_68 rfl nt_68 rfl <| wR rfl <| wA (.int .i64 0) rfl rfl <| wQ rfl <| wA (.int .i64 0) rfl rfl <| wE <| wR rfl ?_
 refine wM (.pointer (some ⟨b_t, 0, none⟩)) rfl rfl <| w_d rfl (d_nilCheck (p := ⟨b_t, 0, none⟩) rfl) <| w_d rfl (d_fld (o' := 0) Tryd.underlying125 rfl sz26 rfl rfl rfl) <| wL v0_t ty26 rfl rfl .here rfl rfl <| wM (.int .i64 bytes) rfl rfl ?_
 obtain ⟨c1, he⟩ := rq he
 refine w_a rfl (o_cut (kd := kU8) Tryd.underlying26 sz5 rfl h0_t (.inl ⟨rfl, rfl⟩) (.inr ⟨_, _, rfl, rfl⟩) c1) ?_
 rintro v2 _ _ ⟨h3, rfl, rfl⟩
 refine w_d rfl (d_len Tryd.underlying26 rfl h3.src) <| wM (.int .i64 0) rfl rfl <| w_done <| w_block <| w_loop <| w_sl 0 (.pointer (some ⟨b_t, 0, none⟩)) rfl <| w_sl 1 (.int .i64 bytes) rfl <| w_sl 4 (.int .i64 0) rfl <| w_sl 5 (.int .i64 0) rfl <| w_sl 13 (v2) rfl <| w_sl 14 (.int .i64 ((cut t.f_b 0 bytes).length : Int)) rfl <| w_sl 15 (.int .i64 0) rfl <| hh.l0 hle he h0_t h3
noncomputable def cat062_taker_signed.C : Code := (Tryd.f69.body).getD .skip
def cat062_taker_signed.out (b_t : Nat) (its_ : Items) (r : Int × cat062_taker) (H : Hp) (v : Value) : Prop := ∃ v0 : Value, v = .int .i64 r.1 ∧ its_ = [some (b_t, .cells ⟨[v0]⟩ 125 (0, 0))] ∧ Ro kU8 H v0 r.2.f_b
noncomputable def cat062_taker_signed.f (k : Nat) (t : cat062_taker) (bytes : Int) : Option (Int × cat062_taker) := (cat062_taker_number.f k t bytes).bind fun y1 => if 0 ≤ (w64 ((w64 (8 * bytes)) - 1)) then (if (w64 (1 * 2 ^ shn .i64 (w64 ((w64 (8 * bytes)) - 1)))) ≤ y1.1 then (some (w64 (y1.1 - (w64 (2 * (w64 (1 * 2 ^ shn .i64 (w64 ((w64 (8 * bytes)) - 1))))))), y1.2)) else (some (y1.1, y1.2))) else none
theorem cat062_taker_signed.mono : ∀ k y0 y1, LeO (cat062_taker_signed.f k y0 y1) (cat062_taker_signed.f (k + 1) y0 y1) := fun k _ _ => by unfold cat062_taker_signed.f; exact (LeO.bind (cat062_taker_number.mono k _ _) fun _ => LeO.ite (LeO.ite (LeO.refl _) (LeO.refl _)) (LeO.refl _))
theorem cat062_taker_signed.calls (k : Nat) {H : Hp} {L : Items} {t : cat062_taker} {bytes : Int} {b_t : Nat} {v0_t : Value} {r : Int × cat062_taker} (he : cat062_taker_signed.f k t bytes = some r) (h0_t : Ro kU8 H v0_t t.f_b) : Ct Tryd.prog 69 ⟨[.pointer (some ⟨b_t, 0, none⟩), .int .i64 bytes]⟩ H (some (b_t, .cells ⟨[v0_t]⟩ 125 (0, 0)) :: L) (fun v H' L' => ∃ its_, L' = its_ ++ L ∧ H.le H' ∧ cat062_taker_signed.out b_t its_ r H' v) := by
 refine ct_ptr ?_
 have hle : H.le H := .refl _
 unfold cat062_taker_signed.f at he
 refine ct_enter (args := [.pointer (some ⟨b_t, 0, none⟩), .int .i64 bytes]) fn_69 rfl nt_69 rfl <| wR rfl <| wA (.int .i64 0) rfl rfl <| wQ rfl <| wM (.pointer (some ⟨b_t, 0, none⟩)) rfl rfl <| wM (.int .i64 bytes) rfl rfl <| w_pull .here ?_
 obtain ⟨y1, hy2, he⟩ := bs he
 refine w_a rfl (o_call co68 (vs := [.pointer (some ⟨b_t, 0, none⟩), .int .i64 bytes]) rfl (cat062_taker_number.calls k (t := t) hy2 h0_t)) ?_
 rintro _ H3 _ ⟨_, rfl, e4, ⟨v5, rfl, rfl, h6⟩⟩
 refine w_it (L' := some (b_t, .cells ⟨[v5]⟩ 125 (0, 0)) :: none :: L) rfl <| w_put .here <| wA (.int .i64 y1.1) rfl rfl <| wE <| wR rfl <| wM (.int .i64 bytes) rfl rfl <| w_d rfl (d_mul (c := w64 (8 * bytes)) rfl rfl rfl) <| w_d rfl (d_sub (c := w64 ((w64 (8 * bytes)) - 1)) rfl rfl rfl) ?_
 obtain ⟨c7, he⟩ := rq he
 refine w_d rfl (d_shl (c := w64 (1 * 2 ^ shn .i64 (w64 ((w64 (8 * bytes)) - 1)))) rfl rfl c7 rfl) <| wA (.int .i64 (w64 (1 * 2 ^ shn .i64 (w64 ((w64 (8 * bytes)) - 1))))) rfl rfl <| wQ rfl <| wM (.int .i64 y1.1) rfl rfl <| wM (.int .i64 (w64 (1 * 2 ^ shn .i64 (w64 ((w64 (8 * bytes)) - 1))))) rfl rfl <| w_d rfl (d_geq rfl rfl) <| w_done ?_
 rcases its he with ⟨c8, he⟩ | ⟨c8, he⟩
 ·
  refine w_then rfl (dt c8) <| w_region rfl <| wM (.int .i64 y1.1) rfl rfl <| wM (.int .i64 (w64 (1 * 2 ^ shn .i64 (w64 ((w64 (8 * bytes)) - 1))))) rfl rfl <| w_d rfl (d_mul (c := w64 (2 * (w64 (1 * 2 ^ shn .i64 (w64 ((w64 (8 * bytes)) - 1)))))) rfl rfl rfl) <| w_d rfl (d_sub (c := w64 (y1.1 - (w64 (2 * (w64 (1 * 2 ^ shn .i64 (w64 ((w64 (8 * bytes)) - 1)))))))) rfl rfl rfl) <| wA (.int .i64 (w64 (y1.1 - (w64 (2 * (w64 (1 * 2 ^ shn .i64 (w64 ((w64 (8 * bytes)) - 1))))))))) rfl rfl <| wQ rfl <| wM (.int .i64 (w64 (y1.1 - (w64 (2 * (w64 (1 * 2 ^ shn .i64 (w64 ((w64 (8 * bytes)) - 1))))))))) rfl rfl <| wA (.int .i64 (w64 (y1.1 - (w64 (2 * (w64 (1 * 2 ^ shn .i64 (w64 ((w64 (8 * bytes)) - 1))))))))) rfl rfl ?_
  refine w_done ?_
  obtain rfl := sj he
  refine w_return fn_69 rs_69 (.tmp (v := .int .i64 (w64 (y1.1 - (w64 (2 * (w64 (1 * 2 ^ shn .i64 (w64 ((w64 (8 * bytes)) - 1))))))))) rfl .nil) <| ⟨[], [_], rfl, hle.trans e4, ⟨v5, rfl, rfl, h6⟩⟩
 ·
  refine w_else rfl (df c8) <| w_skip <| wR rfl <| wM (.int .i64 y1.1) rfl rfl <| wA (.int .i64 y1.1) rfl rfl <| w_done ?_
  obtain rfl := sj he
  refine w_return fn_69 rs_69 (.tmp (v := .int .i64 y1.1) rfl .nil) <| ⟨[], [_], rfl, hle.trans e4, ⟨v5, rfl, rfl, h6⟩⟩
noncomputable def cat062_record.C : Code := (Tryd.f52.body).getD .skip
def cat062_record.out (r : Int × cat062_Report × (Option Int)) (H : Hp) (v : Value) : Prop := v = .tuple ⟨[.int .u16 r.1, .agg ⟨[.int .u16 r.2.1.f_ID, .int .i64 r.2.1.f_Time, .int .i32 r.2.1.f_X, .int .i32 r.2.1.f_Y, .int .i16 r.2.1.f_VX, .int .i16 r.2.1.f_VY, .int .u8 r.2.1.f_State]⟩, errV 73 r.2.2]⟩
noncomputable def cat062_record.f (k : Nat) (b : List Int) : Option (Int × cat062_Report × (Option Int)) := (cat062_head.f k).bind fun y2 => if (b.length : Int) < 20 then (some (0, (⟨0, 0, 0, 0, 0, 0, 0⟩ : cat062_Report), some 4)) else (if (0 : Int) ≤ 0 ∧ (0 : Int) ≤ (y2.length : Int) ∧ (y2.length : Int) ≤ (b.length : Int) then (if (strOf (cut b 0 (y2.length : Int))) = (strOf y2) then (if (0 : Int) ≤ (y2.length : Int) ∧ ((y2.length : Int) : Int) ≤ 20 ∧ 20 ≤ (b.length : Int) then ((cat062_taker_number.f k (⟨cut b (y2.length : Int) 20⟩ : cat062_taker) 2).bind fun y19 => (cat062_taker_number.f k y19.2 3).bind fun y25 => (cat062_taker_signed.f k y25.2 3).bind fun y32 => (cat062_taker_signed.f k y32.2 3).bind fun y38 => (cat062_taker_signed.f k y38.2 2).bind fun y44 => (cat062_taker_signed.f k y44.2 2).bind fun y50 => (cat062_taker_number.f k y50.2 2).bind fun y56 => (cat062_taker_number.f k y56.2 1).bind fun y62 => if (iand .i64 y62.1 1) = 0 then (if 11059200 ≤ y25.1 then (some (0, (⟨0, 0, 0, 0, 0, 0, 0⟩ : cat062_Report), some 5)) else (some ((y19.1) % 65536, (⟨(y56.1) % 65536, y25.1, w32 (y32.1), w32 (y38.1), IntKind.i16.wrap (y44.1), IntKind.i16.wrap (y50.1), (y62.1 / 2) % 256⟩ : cat062_Report), none))) else (some (0, (⟨0, 0, 0, 0, 0, 0, 0⟩ : cat062_Report), some 3))) else none) else (some (0, (⟨0, 0, 0, 0, 0, 0, 0⟩ : cat062_Report), some 3))) else none)
theorem cat062_record.mono : ∀ k y0, LeO (cat062_record.f k y0) (cat062_record.f (k + 1) y0) := fun k _ => by unfold cat062_record.f; exact (LeO.bind (cat062_head.mono k) fun _ => LeO.ite (LeO.refl _) (LeO.ite (LeO.ite (LeO.ite (LeO.bind (cat062_taker_number.mono k _ _) fun _ => LeO.bind (cat062_taker_number.mono k _ _) fun _ => LeO.bind (cat062_taker_signed.mono k _ _) fun _ => LeO.bind (cat062_taker_signed.mono k _ _) fun _ => LeO.bind (cat062_taker_signed.mono k _ _) fun _ => LeO.bind (cat062_taker_signed.mono k _ _) fun _ => LeO.bind (cat062_taker_number.mono k _ _) fun _ => LeO.bind (cat062_taker_number.mono k _ _) fun _ => LeO.ite (LeO.ite (LeO.refl _) (LeO.refl _)) (LeO.refl _)) (LeO.refl _)) (LeO.refl _)) (LeO.refl _)))
theorem cat062_record.calls (k : Nat) {H : Hp} {L : Items} {b : List Int} {v0_b : Value} {r : Int × cat062_Report × (Option Int)} (he : cat062_record.f k b = some r) (h0_b : Ro kU8 H v0_b b) : Ct Tryd.prog 52 ⟨[v0_b]⟩ H L (fun v H' L' => L = L' ∧ H = H' ∧ v = .tuple ⟨[.int .u16 r.1, .agg ⟨[.int .u16 r.2.1.f_ID, .int .i64 r.2.1.f_Time, .int .i32 r.2.1.f_X, .int .i32 r.2.1.f_Y, .int .i16 r.2.1.f_VX, .int .i16 r.2.1.f_VY, .int .u8 r.2.1.f_State]⟩, errV 73 r.2.2]⟩) := by
 refine ct_outs (O := cat062_record.out r) (fun _ _ h => h) ?_
 have hle : H.le H := .refl _
 unfold cat062_record.f at he
 refine ct_enter (args := [v0_b]) fn_52 rfl nt_52 rfl <| wR rfl <| wA (.int .u16 0) rfl rfl <| w_a rfl (o_alloc zr70 rfl) ?_
 rintro _ _ _ ⟨b1, rfl, rfl, rfl⟩
 refine wA (errV 73 none) rfl rfl <| wQ rfl ?_
 obtain ⟨y2, hy3, he⟩ := bs he
 refine w_a rfl (o_call co34 (vs := []) rfl (cat062_head.calls k hy3)) ?_
 rintro v6 H4 _ ⟨rfl, e5, h7⟩
 refine wA v6 rfl rfl <| wE <| w_block <| wR rfl <| wM v0_b rfl rfl <| w_d rfl (d_len Tryd.underlying26 rfl (h0_b.mono e5).src) <| w_d rfl (d_lss rfl rfl) <| wA (.bool (decide ((b.length : Int) < 20))) rfl rfl <| w_done ?_
 rcases its he with ⟨c8, he⟩ | ⟨c8, he⟩
 ·
  refine w_then rfl (dt c8) <| wR rfl <| w_d rfl (d_build (cs' := [.int .u16 0, .int .i64 0, .int .i32 0, .int .i32 0, .int .i16 0, .int .i16 0, .int .u8 0]) Tryd.underlying70 zr70 rfl (by kernel_rfl) (parts := []) rfl .nil) <| w_d rfl (d_iface (v := .int .i64 4) Tryd.underlying73 rfl rfl) <| wA (.int .u16 0) rfl rfl <| w_a0 rfl (o_store (v := .agg ⟨[.int .u16 0, .int .i64 0, .int .i32 0, .int .i32 0, .int .i16 0, .int .i16 0, .int .u8 0]⟩) sz70 rfl rfl rfl rfl (oc rfl (oc rfl (oc rfl (oc rfl (oc rfl (oc rfl (oc rfl oz))))))) .here (.here (.here (.here u4)))) ?_
  rintro _ _ _ ⟨rfl, rfl, rfl⟩
  refine wA (errV 73 (some 4)) rfl rfl <| w_done ?_
  obtain rfl := sj he
  refine w_return fn_52 rs_52 (.tmp (v := .int .u16 0) rfl (.box (v := .agg ⟨[.int .u16 0, .int .i64 0, .int .i32 0, .int .i32 0, .int .i16 0, .int .i16 0, .int .u8 0]⟩) rfl ty70 rfl rfl .here rfl (.tmp (v := errV 73 (some 4)) rfl .nil))) <| ⟨⟨[_], rfl⟩, hle.trans e5, rfl⟩
 ·
  refine w_else rfl (df c8) <| w_seq ?_
  obtain ⟨c9, he⟩ := rq he
  refine w_drawn (p := 7) (tl := [7, 8]) [[], [], [(1, some 19)], [(0, some 18), (2, some 20)], [(3, some 21)], [], [(5, some 23)]] [some 18, some 19, some 20, some 21, some 22, some 23, some 24] (fctF (.is (v0_b) :: .is (v6) :: .is (.int .i64 (y2.length : Int)) :: .ro kU8 (cut b 0 (y2.length : Int)) :: .is (.string (strOf (cut b 0 (y2.length : Int)))) :: .is (v6) :: .is (.string (strOf y2)) :: [])) (fun m_ => some (b1, .cells ⟨[.int .u16 0, .int .i64 0, .int .i32 0, .int .i32 0, .int .i16 0, .int .i16 0, .int .u8 0]⟩ 70 (0, 0)) :: L) (fun _ => none) mixed (by kernel_rfl) (by kernel_rfl) rfl (fct_mono (by kernel_rfl)) ⟨(fun H' m_ hH hm_ hu_ => dn <| s_d (m_ 0) rfl (d_move (v := v0_b) rfl) (by exact rfl) rfl), (fun H' m_ hH hm_ hu_ => dn <| s_d (m_ 1) rfl (d_move (v := v6) rfl) (by exact rfl) rfl), (by rintro H' m_ hH hm_ hu_ _ rfl; exact dn <| s_d (m_ 2) rfl (d_len Tryd.underlying26 rfl (h7.mono hH).src) (by exact rfl) rfl), (by rintro H' m_ hH hm_ hu_ _ rfl _ rfl; exact dn <| s_k (m_ 3) rfl (o_cut (kd := kU8) Tryd.underlying26 sz5 rfl (h0_b.mono (e5.trans hH)) (.inl ⟨rfl, rfl⟩) (.inr ⟨_, _, rfl, rfl⟩) c9) rfl (by rintro v_ _ _ ⟨h_, rfl, rfl⟩; exact ⟨rfl, .refl _, h_⟩)), (by rintro H' m_ hH hm_ hu_ v10 (h11 : Ro kU8 H' v10 (cut b 0 (y2.length : Int))); exact dn <| s_d (m_ 4) rfl (d_strof Tryd.underlying26 Tryd.underlying5 Tryd.underlying9 rfl h11.src) (by exact rfl) rfl), (fun H' m_ hH hm_ hu_ => dn <| s_d (m_ 5) rfl (d_move (v := v6) rfl) (by exact rfl) rfl), (by rintro H' m_ hH hm_ hu_ _ rfl; exact dn <| s_d (m_ 6) rfl (d_strof Tryd.underlying26 Tryd.underlying5 Tryd.underlying9 rfl (h7.mono hH).src) (by exact rfl) rfl), trivial⟩ ?_
  intro H12 e13
  rintro _ _ rfl _ _ rfl _ _ rfl v10 _ (h11 : Ro kU8 H12 v10 (cut b 0 (y2.length : Int))) _ _ rfl _ _ rfl _ _ rfl
  refine w_d rfl (d_nes rfl rfl) <| wA (.bool (!decide ((strOf (cut b 0 (y2.length : Int))) = (strOf y2)))) rfl rfl <| w_done ?_
  rcases its he with ⟨c14, he⟩ | ⟨c14, he⟩
  ·
   refine w_else rfl (nd_t c14) <| w_skip <| w_inBlock <| wR rfl <| wM v0_b rfl rfl <| wM v6 rfl rfl <| w_d rfl (d_len Tryd.underlying26 rfl (h7.mono e13).src) ?_
   obtain ⟨c15, he⟩ := rq he
   refine w_a rfl (o_cut (kd := kU8) Tryd.underlying26 sz5 rfl (h0_b.mono (e5.trans e13)) (.inr ⟨_, _, rfl, rfl⟩) (.inr ⟨_, _, rfl, rfl⟩) c15) ?_
   rintro v16 _ _ ⟨h17, rfl, rfl⟩
   refine w_d rfl (d_build (cs' := [v16]) Tryd.underlying125 zr125 rfl (by kernel_rfl) (parts := [(0, v16)]) rfl (.cons (place_of rfl sz26 rfl) h17.cells rfl u1 .nil)) <| w_a rfl (o_box (v := .agg ⟨[v16]⟩) rfl rfl) ?_
   rintro _ _ _ ⟨b18, rfl, rfl, rfl⟩
   refine wA (.pointer (some ⟨b18, 0, none⟩)) rfl rfl <| wQ rfl <| wM (.pointer (some ⟨b18, 0, none⟩)) rfl rfl <| w_pull .here ?_
   obtain ⟨y19, hy20, he⟩ := bs he
   refine w_a rfl (o_call co68 (vs := [.pointer (some ⟨b18, 0, none⟩), .int .i64 2]) rfl (cat062_taker_number.calls k (t := ⟨cut b (y2.length : Int) 20⟩) hy20 h17)) ?_
   rintro _ H21 _ ⟨_, rfl, e22, ⟨v23, rfl, rfl, h24⟩⟩
   refine w_it (L' := some (b18, .cells ⟨[v23]⟩ 125 (0, 0)) :: none :: some (b1, .cells ⟨[.int .u16 0, .int .i64 0, .int .i32 0, .int .i32 0, .int .i16 0, .int .i16 0, .int .u8 0]⟩ 70 (0, 0)) :: L) rfl <| w_put .here <| w_d rfl (d_conv (c := (y19.1) % 65536) Tryd.underlying2 Tryd.underlying22 rfl rfl) <| wA (.int .u16 ((y19.1) % 65536)) rfl rfl <| wQ rfl <| wM (.pointer (some ⟨b18, 0, none⟩)) rfl rfl <| w_pull .here ?_
   obtain ⟨y25, hy26, he⟩ := bs he
   refine w_a rfl (o_call co68 (vs := [.pointer (some ⟨b18, 0, none⟩), .int .i64 3]) rfl (cat062_taker_number.calls k (t := y19.2) hy26 h24)) ?_
   rintro _ H27 _ ⟨_, rfl, e28, ⟨v29, rfl, rfl, h30⟩⟩
   refine w_it (L' := some (b18, .cells ⟨[v29]⟩ 125 (0, 0)) :: none :: some (b1, .cells ⟨[.int .u16 0, .int .i64 0, .int .i32 0, .int .i32 0, .int .i16 0, .int .i16 0, .int .u8 0]⟩ 70 (0, 0)) :: L) rfl <| w_put .here <| w_d rfl (d_build (cs' := [.int .u16 0, .int .i64 y25.1, .int .i32 0, .int .i32 0, .int .i16 0, .int .i16 0, .int .u8 0]) Tryd.underlying70 zr70 rfl (by kernel_rfl) (parts := [(1, .int .i64 y25.1)]) rfl (.cons (place_of rfl sz2 rfl) rfl rfl (.there u1) .nil)) <| w_a rfl (o_alloc zr70 rfl) ?_
   rintro _ _ _ ⟨b31, rfl, rfl, rfl⟩
   refine w_a0 rfl (o_store (v := .agg ⟨[.int .u16 0, .int .i64 y25.1, .int .i32 0, .int .i32 0, .int .i16 0, .int .i16 0, .int .u8 0]⟩) sz70 rfl rfl rfl rfl (oc rfl (oc rfl (oc rfl (oc rfl (oc rfl (oc rfl (oc rfl oz))))))) .here (.here (.here (.here u4)))) ?_
   rintro _ _ _ ⟨rfl, rfl, rfl⟩
   refine wQ rfl <| wM (.pointer (some ⟨b18, 0, none⟩)) rfl rfl <| w_pull (.there .here) ?_
   obtain ⟨y32, hy33, he⟩ := bs he
   refine w_a rfl (o_call co69 (vs := [.pointer (some ⟨b18, 0, none⟩), .int .i64 3]) rfl (cat062_taker_signed.calls k (t := y25.2) hy33 h30)) ?_
   rintro _ H34 _ ⟨_, rfl, e35, ⟨v36, rfl, rfl, h37⟩⟩
   refine w_it (L' := some (b18, .cells ⟨[v36]⟩ 125 (0, 0)) :: some (b31, .cells ⟨[.int .u16 0, .int .i64 y25.1, .int .i32 0, .int .i32 0, .int .i16 0, .int .i16 0, .int .u8 0]⟩ 70 (0, 0)) :: none :: some (b1, .cells ⟨[.int .u16 0, .int .i64 0, .int .i32 0, .int .i32 0, .int .i16 0, .int .i16 0, .int .u8 0]⟩ 70 (0, 0)) :: L) rfl <| w_put (.there .here) <| w_d rfl (d_conv (c := w32 (y32.1)) Tryd.underlying2 Tryd.underlying21 rfl rfl) <| wM (.pointer (some ⟨b18, 0, none⟩)) rfl rfl <| w_pull (.there .here) ?_
   obtain ⟨y38, hy39, he⟩ := bs he
   refine w_a rfl (o_call co69 (vs := [.pointer (some ⟨b18, 0, none⟩), .int .i64 3]) rfl (cat062_taker_signed.calls k (t := y32.2) hy39 h37)) ?_
   rintro _ H40 _ ⟨_, rfl, e41, ⟨v42, rfl, rfl, h43⟩⟩
   refine w_it (L' := some (b18, .cells ⟨[v42]⟩ 125 (0, 0)) :: some (b31, .cells ⟨[.int .u16 0, .int .i64 y25.1, .int .i32 0, .int .i32 0, .int .i16 0, .int .i16 0, .int .u8 0]⟩ 70 (0, 0)) :: none :: some (b1, .cells ⟨[.int .u16 0, .int .i64 0, .int .i32 0, .int .i32 0, .int .i16 0, .int .i16 0, .int .u8 0]⟩ 70 (0, 0)) :: L) rfl <| w_put (.there .here) <| w_d rfl (d_conv (c := w32 (y38.1)) Tryd.underlying2 Tryd.underlying21 rfl rfl) <| w_d rfl (d_fld (o' := 2) Tryd.underlying70 rfl sz21 rfl rfl rfl) <| w_a0 rfl (o_store (v := .int .i32 (w32 (y32.1))) sz21 rfl rfl rfl rfl (oc rfl oz) .here (.there (.there u1))) ?_
   rintro _ _ _ ⟨rfl, rfl, rfl⟩
   refine w_d rfl (d_fld (o' := 3) Tryd.underlying70 rfl sz21 rfl rfl rfl) <| w_a0 rfl (o_store (v := .int .i32 (w32 (y38.1))) sz21 rfl rfl rfl rfl (oc rfl oz) .here (.there (.there (.there u1)))) ?_
   rintro _ _ _ ⟨rfl, rfl, rfl⟩
   refine wQ rfl <| wM (.pointer (some ⟨b18, 0, none⟩)) rfl rfl <| w_pull (.there .here) ?_
   obtain ⟨y44, hy45, he⟩ := bs he
   refine w_a rfl (o_call co69 (vs := [.pointer (some ⟨b18, 0, none⟩), .int .i64 2]) rfl (cat062_taker_signed.calls k (t := y38.2) hy45 h43)) ?_
   rintro _ H46 _ ⟨_, rfl, e47, ⟨v48, rfl, rfl, h49⟩⟩
   refine w_it (L' := some (b18, .cells ⟨[v48]⟩ 125 (0, 0)) :: some (b31, .cells ⟨[.int .u16 0, .int .i64 y25.1, .int .i32 (w32 (y32.1)), .int .i32 (w32 (y38.1)), .int .i16 0, .int .i16 0, .int .u8 0]⟩ 70 (0, 0)) :: none :: some (b1, .cells ⟨[.int .u16 0, .int .i64 0, .int .i32 0, .int .i32 0, .int .i16 0, .int .i16 0, .int .u8 0]⟩ 70 (0, 0)) :: L) rfl <| w_put (.there .here) <| w_d rfl (d_conv (c := IntKind.i16.wrap (y44.1)) Tryd.underlying2 Tryd.underlying38 rfl rfl) <| wM (.pointer (some ⟨b18, 0, none⟩)) rfl rfl <| w_pull (.there .here) ?_
   obtain ⟨y50, hy51, he⟩ := bs he
   refine w_a rfl (o_call co69 (vs := [.pointer (some ⟨b18, 0, none⟩), .int .i64 2]) rfl (cat062_taker_signed.calls k (t := y44.2) hy51 h49)) ?_
   rintro _ H52 _ ⟨_, rfl, e53, ⟨v54, rfl, rfl, h55⟩⟩
   refine w_it (L' := some (b18, .cells ⟨[v54]⟩ 125 (0, 0)) :: some (b31, .cells ⟨[.int .u16 0, .int .i64 y25.1, .int .i32 (w32 (y32.1)), .int .i32 (w32 (y38.1)), .int .i16 0, .int .i16 0, .int .u8 0]⟩ 70 (0, 0)) :: none :: some (b1, .cells ⟨[.int .u16 0, .int .i64 0, .int .i32 0, .int .i32 0, .int .i16 0, .int .i16 0, .int .u8 0]⟩ 70 (0, 0)) :: L) rfl <| w_put (.there .here) <| w_d rfl (d_conv (c := IntKind.i16.wrap (y50.1)) Tryd.underlying2 Tryd.underlying38 rfl rfl) <| w_d rfl (d_fld (o' := 4) Tryd.underlying70 rfl sz38 rfl rfl rfl) <| w_a0 rfl (o_store (v := .int .i16 (IntKind.i16.wrap (y44.1))) sz38 rfl rfl rfl rfl (oc rfl oz) .here (.there (.there (.there (.there u1))))) ?_
   rintro _ _ _ ⟨rfl, rfl, rfl⟩
   refine w_d rfl (d_fld (o' := 5) Tryd.underlying70 rfl sz38 rfl rfl rfl) <| w_a0 rfl (o_store (v := .int .i16 (IntKind.i16.wrap (y50.1))) sz38 rfl rfl rfl rfl (oc rfl oz) .here (.there (.there (.there (.there (.there u1)))))) ?_
   rintro _ _ _ ⟨rfl, rfl, rfl⟩
   refine wQ rfl <| wM (.pointer (some ⟨b18, 0, none⟩)) rfl rfl <| w_pull (.there .here) ?_
   obtain ⟨y56, hy57, he⟩ := bs he
   refine w_a rfl (o_call co68 (vs := [.pointer (some ⟨b18, 0, none⟩), .int .i64 2]) rfl (cat062_taker_number.calls k (t := y50.2) hy57 h55)) ?_
   rintro _ H58 _ ⟨_, rfl, e59, ⟨v60, rfl, rfl, h61⟩⟩
   refine w_it (L' := some (b18, .cells ⟨[v60]⟩ 125 (0, 0)) :: some (b31, .cells ⟨[.int .u16 0, .int .i64 y25.1, .int .i32 (w32 (y32.1)), .int .i32 (w32 (y38.1)), .int .i16 (IntKind.i16.wrap (y44.1)), .int .i16 (IntKind.i16.wrap (y50.1)), .int .u8 0]⟩ 70 (0, 0)) :: none :: some (b1, .cells ⟨[.int .u16 0, .int .i64 0, .int .i32 0, .int .i32 0, .int .i16 0, .int .i16 0, .int .u8 0]⟩ 70 (0, 0)) :: L) rfl <| w_put (.there .here) <| w_d rfl (d_conv (c := (y56.1) % 65536) Tryd.underlying2 Tryd.underlying22 rfl rfl) <| w_d rfl (d_fld (o' := 0) Tryd.underlying70 rfl sz22 rfl rfl rfl) <| w_a0 rfl (o_store (v := .int .u16 ((y56.1) % 65536)) sz22 rfl rfl rfl rfl (oc rfl oz) .here u1) ?_
   rintro _ _ _ ⟨rfl, rfl, rfl⟩
   refine wQ rfl <| wM (.pointer (some ⟨b18, 0, none⟩)) rfl rfl <| w_pull (.there .here) ?_
   obtain ⟨y62, hy63, he⟩ := bs he
   refine w_a rfl (o_call co68 (vs := [.pointer (some ⟨b18, 0, none⟩), .int .i64 1]) rfl (cat062_taker_number.calls k (t := y56.2) hy63 h61)) ?_
   rintro _ H64 _ ⟨_, rfl, e65, ⟨v66, rfl, rfl, h67⟩⟩
   refine w_it (L' := some (b18, .cells ⟨[v66]⟩ 125 (0, 0)) :: some (b31, .cells ⟨[.int .u16 ((y56.1) % 65536), .int .i64 y25.1, .int .i32 (w32 (y32.1)), .int .i32 (w32 (y38.1)), .int .i16 (IntKind.i16.wrap (y44.1)), .int .i16 (IntKind.i16.wrap (y50.1)), .int .u8 0]⟩ 70 (0, 0)) :: none :: some (b1, .cells ⟨[.int .u16 0, .int .i64 0, .int .i32 0, .int .i32 0, .int .i16 0, .int .i16 0, .int .u8 0]⟩ 70 (0, 0)) :: L) rfl <| w_put (.there .here) <| wA (.int .i64 y62.1) rfl rfl <| wQ rfl <| wM (.int .i64 y62.1) rfl rfl <| w_d rfl (d_shr (c := y62.1 / 2) rfl rfl (by decide) rfl) <| w_d rfl (d_conv (c := (y62.1 / 2) % 256) Tryd.underlying2 Tryd.underlying5 rfl rfl) <| w_d rfl (d_fld (o' := 6) Tryd.underlying70 rfl sz5 rfl rfl rfl) <| w_a0 rfl (o_store (v := .int .u8 ((y62.1 / 2) % 256)) sz5 rfl rfl rfl rfl (oc rfl oz) .here (.there (.there (.there (.there (.there (.there u1))))))) ?_
   rintro _ _ _ ⟨rfl, rfl, rfl⟩
   refine wE <| w_block <| wR rfl <| wM (.int .i64 y62.1) rfl rfl <| w_d rfl (d_band rfl rfl) <| w_d rfl (d_neq rfl rfl) <| wA (.bool (!decide ((iand .i64 y62.1 1) = 0))) rfl rfl <| w_done ?_
   rcases its he with ⟨c68, he⟩ | ⟨c68, he⟩
   ·
    refine w_else rfl (nd_t c68) <| wR rfl <| w_d rfl (d_fld (o' := 1) Tryd.underlying70 rfl sz2 rfl rfl rfl) <| wL (.int .i64 y25.1) ty2 rfl rfl .here rfl rfl <| w_d rfl (d_geq rfl rfl) <| wA (.bool (decide (11059200 ≤ y25.1))) rfl rfl <| w_done ?_
    rcases its he with ⟨c69, he⟩ | ⟨c69, he⟩
    ·
     refine w_then rfl (dt c69) <| wR rfl <| w_d rfl (d_build (cs' := [.int .u16 0, .int .i64 0, .int .i32 0, .int .i32 0, .int .i16 0, .int .i16 0, .int .u8 0]) Tryd.underlying70 zr70 rfl (by kernel_rfl) (parts := []) rfl .nil) <| w_d rfl (d_iface (v := .int .i64 5) Tryd.underlying73 rfl rfl) <| wA (.int .u16 0) rfl rfl <| w_a0 rfl (o_store (v := .agg ⟨[.int .u16 0, .int .i64 0, .int .i32 0, .int .i32 0, .int .i16 0, .int .i16 0, .int .u8 0]⟩) sz70 rfl rfl rfl rfl (oc rfl (oc rfl (oc rfl (oc rfl (oc rfl (oc rfl (oc rfl oz))))))) (.there (.there .here)) (.here (.here (.here u4)))) ?_
     rintro _ _ _ ⟨rfl, rfl, rfl⟩
     refine wA (errV 73 (some 5)) rfl rfl <| w_done ?_
     obtain rfl := sj he
     refine w_return fn_52 rs_52 (.tmp (v := .int .u16 0) rfl (.box (v := .agg ⟨[.int .u16 0, .int .i64 0, .int .i32 0, .int .i32 0, .int .i16 0, .int .i16 0, .int .u8 0]⟩) rfl ty70 rfl rfl (.there (.there .here)) rfl (.tmp (v := errV 73 (some 5)) rfl .nil))) <| ⟨⟨[_, _, _], rfl⟩, hle.trans (((((((((e5.trans e13).trans e22).trans e28).trans e35).trans e41).trans e47).trans e53).trans e59).trans e65), rfl⟩
    ·
     refine w_else rfl (df c69) <| w_skip <| w_inBlock <| w_seq <| w_drawn (p := 3) (tl := [3, 4]) [[], [], [(0, some 78)]] [some 78, some 79, some 2] (fctF (.is (.int .u16 ((y19.1) % 65536)) :: .is (.agg ⟨[.int .u16 ((y56.1) % 65536), .int .i64 y25.1, .int .i32 (w32 (y32.1)), .int .i32 (w32 (y38.1)), .int .i16 (IntKind.i16.wrap (y44.1)), .int .i16 (IntKind.i16.wrap (y50.1)), .int .u8 ((y62.1 / 2) % 256)]⟩) :: .is (.int .u16 ((y19.1) % 65536)) :: [])) (fun m_ => some (b31, .cells ⟨[.int .u16 ((y56.1) % 65536), .int .i64 y25.1, .int .i32 (w32 (y32.1)), .int .i32 (w32 (y38.1)), .int .i16 (IntKind.i16.wrap (y44.1)), .int .i16 (IntKind.i16.wrap (y50.1)), .int .u8 ((y62.1 / 2) % 256)]⟩ 70 (0, 0)) :: some (b18, .cells ⟨[v66]⟩ 125 (0, 0)) :: some (b1, .cells ⟨[.int .u16 0, .int .i64 0, .int .i32 0, .int .i32 0, .int .i16 0, .int .i16 0, .int .u8 0]⟩ 70 (0, 0)) :: L) (fun _ => none) mixed (by kernel_rfl) (by kernel_rfl) rfl (fct_mono (by kernel_rfl)) ⟨(fun H' m_ hH hm_ hu_ => dn <| s_d (m_ 0) rfl (d_move (v := .int .u16 ((y19.1) % 65536)) rfl) (by exact rfl) rfl), (fun H' m_ hH hm_ hu_ => dn <| s_d (m_ 1) rfl (d_loado (v := .agg ⟨[.int .u16 ((y56.1) % 65536), .int .i64 y25.1, .int .i32 (w32 (y32.1)), .int .i32 (w32 (y38.1)), .int .i16 (IntKind.i16.wrap (y44.1)), .int .i16 (IntKind.i16.wrap (y50.1)), .int .u8 ((y62.1 / 2) % 256)]⟩) ty70 rfl .here rfl rfl rfl rfl) (by exact rfl) rfl), (by rintro H' m_ hH hm_ hu_ _ rfl; exact dn <| s_d (m_ 2) rfl (d_assign (v := .int .u16 ((y19.1) % 65536)) rfl) (by exact rfl) rfl), trivial⟩ ?_
     intro H70 e71
     rintro _ _ rfl _ _ rfl _ _ rfl
     refine w_a0 rfl (o_store (v := .agg ⟨[.int .u16 ((y56.1) % 65536), .int .i64 y25.1, .int .i32 (w32 (y32.1)), .int .i32 (w32 (y38.1)), .int .i16 (IntKind.i16.wrap (y44.1)), .int .i16 (IntKind.i16.wrap (y50.1)), .int .u8 ((y62.1 / 2) % 256)]⟩) sz70 rfl rfl rfl rfl (oc rfl (oc rfl (oc rfl (oc rfl (oc rfl (oc rfl (oc rfl oz))))))) (.there (.there .here)) (.here (.here (.here u4)))) ?_
     rintro _ _ _ ⟨rfl, rfl, rfl⟩
     refine wA (errV 73 none) rfl rfl <| w_done ?_
     obtain rfl := sj he
     refine w_return fn_52 rs_52 (.tmp (v := .int .u16 ((y19.1) % 65536)) rfl (.box (v := .agg ⟨[.int .u16 ((y56.1) % 65536), .int .i64 y25.1, .int .i32 (w32 (y32.1)), .int .i32 (w32 (y38.1)), .int .i16 (IntKind.i16.wrap (y44.1)), .int .i16 (IntKind.i16.wrap (y50.1)), .int .u8 ((y62.1 / 2) % 256)]⟩) rfl ty70 rfl rfl (.there (.there .here)) rfl (.tmp (v := errV 73 none) rfl .nil))) <| ⟨⟨[_, _, _], rfl⟩, hle.trans ((((((((((e5.trans e13).trans e22).trans e28).trans e35).trans e41).trans e47).trans e53).trans e59).trans e65).trans e71), rfl⟩
   ·
    refine w_then rfl (nd_f c68) <| wR rfl <| w_d rfl (d_build (cs' := [.int .u16 0, .int .i64 0, .int .i32 0, .int .i32 0, .int .i16 0, .int .i16 0, .int .u8 0]) Tryd.underlying70 zr70 rfl (by kernel_rfl) (parts := []) rfl .nil) <| w_d rfl (d_iface (v := .int .i64 3) Tryd.underlying73 rfl rfl) <| wA (.int .u16 0) rfl rfl <| w_a0 rfl (o_store (v := .agg ⟨[.int .u16 0, .int .i64 0, .int .i32 0, .int .i32 0, .int .i16 0, .int .i16 0, .int .u8 0]⟩) sz70 rfl rfl rfl rfl (oc rfl (oc rfl (oc rfl (oc rfl (oc rfl (oc rfl (oc rfl oz))))))) (.there (.there .here)) (.here (.here (.here u4)))) ?_
    rintro _ _ _ ⟨rfl, rfl, rfl⟩
    refine wA (errV 73 (some 3)) rfl rfl <| w_done ?_
    obtain rfl := sj he
    refine w_return fn_52 rs_52 (.tmp (v := .int .u16 0) rfl (.box (v := .agg ⟨[.int .u16 0, .int .i64 0, .int .i32 0, .int .i32 0, .int .i16 0, .int .i16 0, .int .u8 0]⟩) rfl ty70 rfl rfl (.there (.there .here)) rfl (.tmp (v := errV 73 (some 3)) rfl .nil))) <| ⟨⟨[_, _, _], rfl⟩, hle.trans (((((((((e5.trans e13).trans e22).trans e28).trans e35).trans e41).trans e47).trans e53).trans e59).trans e65), rfl⟩
  ·
   refine w_then rfl (nd_f c14) <| wR rfl <| w_d rfl (d_build (cs' := [.int .u16 0, .int .i64 0, .int .i32 0, .int .i32 0, .int .i16 0, .int .i16 0, .int .u8 0]) Tryd.underlying70 zr70 rfl (by kernel_rfl) (parts := []) rfl .nil) <| w_d rfl (d_iface (v := .int .i64 3) Tryd.underlying73 rfl rfl) <| wA (.int .u16 0) rfl rfl <| w_a0 rfl (o_store (v := .agg ⟨[.int .u16 0, .int .i64 0, .int .i32 0, .int .i32 0, .int .i16 0, .int .i16 0, .int .u8 0]⟩) sz70 rfl rfl rfl rfl (oc rfl (oc rfl (oc rfl (oc rfl (oc rfl (oc rfl (oc rfl oz))))))) .here (.here (.here (.here u4)))) ?_
   rintro _ _ _ ⟨rfl, rfl, rfl⟩
   refine wA (errV 73 (some 3)) rfl rfl <| w_done ?_
   obtain rfl := sj he
   refine w_return fn_52 rs_52 (.tmp (v := .int .u16 0) rfl (.box (v := .agg ⟨[.int .u16 0, .int .i64 0, .int .i32 0, .int .i32 0, .int .i16 0, .int .i16 0, .int .u8 0]⟩) rfl ty70 rfl rfl .here rfl (.tmp (v := errV 73 (some 3)) rfl .nil))) <| ⟨⟨[_], rfl⟩, hle.trans (e5.trans e13), rfl⟩
noncomputable def cat062_Decode.C : Code := (Tryd.f31.body).getD .skip
def cat062_Decode.out (r : Int × (List cat062_Report) × (Option Int)) (H : Hp) (v : Value) : Prop := ∃ v0, v = .tuple ⟨[.int .u16 r.1, v0, errV 73 r.2.2]⟩ ∧ Ro k_cat062_Report H v0 r.2.1
theorem cat062_Decode.out_mono (r : Int × (List cat062_Report) × (Option Int)) {H H' : Hp} {v : Value} (hle : H.le H') (h : cat062_Decode.out r H v) : cat062_Decode.out r H' v := by
 obtain ⟨v0, rfl, h0⟩ := h; exact ⟨v0, rfl, h0.mono hle⟩
abbrev cat062_Decode.R (H0 : Hp) (L : Items) (r : Int × (List cat062_Report) × (Option Int)) := fR H0 L (cat062_Decode.out r)
structure cat062_Decode.Hs where
 l0 : (List Int) → Int → (List cat062_Report) → (Option Int) → (List cat062_Report) → Int → Option (Int × (List cat062_Report) × (Option Int))
noncomputable def cat062_Decode.b0 (k : Nat) (h : cat062_Decode.Hs)  (b : List Int) (t2 : Int) (t3 : List cat062_Report) (t4 : Option Int) (out : List cat062_Report) (source : Int) : Option (Int × (List cat062_Report) × (Option Int)) := if 0 < (b.length : Int) then ((cat062_record.f k b).bind fun y10 => if y10.2.2.isSome = true then (some (0, [], y10.2.2)) else (if ((decide (0 < (out.length : Int))) && (!decide (y10.1 = source))) = true then (some (0, [], some 9)) else (if out.length + 1 ≤ 4398046510976 then (if (0 : Int) ≤ 20 ∧ (20 : Int) ≤ (b.length : Int) ∧ (b.length : Int) ≤ (b.length : Int) then (h.l0 (cut b 20 (b.length : Int)) t2 t3 t4 (out ++ [y10.2.1]) y10.1) else none) else none))) else (if 512 < (out.length : Int) then (some (0, [], some 2)) else (some (source, out, none)))
noncomputable def cat062_Decode.hs : Nat → cat062_Decode.Hs
 | 0 => ⟨fun _ _ _ _ _ _ => none⟩
 | k + 1 => ⟨fun x0 x1 x2 x3 x4 x5 => cat062_Decode.b0 k (cat062_Decode.hs k) x0 x1 x2 x3 x4 x5⟩
noncomputable def cat062_Decode.f (k : Nat) (b : List Int) : Option (Int × (List cat062_Report) × (Option Int)) := (fun h : cat062_Decode.Hs => (cat062_framed.f k b).bind fun y1 => if y1.isSome = true then (some (0, [], y1)) else (if (0 : Int) ≤ 3 ∧ (3 : Int) ≤ (b.length : Int) ∧ (b.length : Int) ≤ (b.length : Int) then (h.l0 (cut b 3 (b.length : Int)) 0 [] none [] 0) else none)) (cat062_Decode.hs k)
structure cat062_Decode.LE (h h' : cat062_Decode.Hs) : Prop where
 l0 : ∀ y0 y1 y2 y3 y4 y5, LeO (h.l0 y0 y1 y2 y3 y4 y5) (h'.l0 y0 y1 y2 y3 y4 y5)
theorem cat062_Decode.b0_mono {k : Nat} {h h' : cat062_Decode.Hs} (hl : cat062_Decode.LE h h') : ∀ y0 y1 y2 y3 y4 y5, LeO (cat062_Decode.b0 k h y0 y1 y2 y3 y4 y5) (cat062_Decode.b0 (k + 1) h' y0 y1 y2 y3 y4 y5) := fun _ _ _ _ _ _ => (LeO.ite (LeO.bind (cat062_record.mono k _) fun _ => LeO.ite (LeO.refl _) (LeO.ite (LeO.refl _) (LeO.ite (LeO.ite (hl.l0 _ _ _ _ _ _) (LeO.refl _)) (LeO.refl _)))) (LeO.ite (LeO.refl _) (LeO.refl _)))
theorem cat062_Decode.hs_mono : ∀ k, cat062_Decode.LE (cat062_Decode.hs k) (cat062_Decode.hs (k + 1))
 | 0 => ⟨fun _ _ _ _ _ _ => LeO.none _⟩
 | k + 1 => ⟨cat062_Decode.b0_mono (k := k) (cat062_Decode.hs_mono k)⟩
theorem cat062_Decode.mono : ∀ k y0, LeO (cat062_Decode.f k y0) (cat062_Decode.f (k + 1) y0) := fun k _ => have hl := cat062_Decode.hs_mono k; by unfold cat062_Decode.f; exact (LeO.bind (cat062_framed.mono k _) fun _ => LeO.ite (LeO.refl _) (LeO.ite (hl.l0 _ _ _ _ _ _) (LeO.refl _)))
noncomputable def cat062_Decode.Kl0 : List Item := .code (lopB (blkB (seqR (seqL (seqR (seqR (seqR (seqR cat062_Decode.C)))))))) :: .inLoop (lopB (blkB (seqR (seqL (seqR (seqR (seqR (seqR cat062_Decode.C)))))))) :: .inBlock 0 :: .code (seqR (seqR (seqR (seqR (seqR cat062_Decode.C))))) :: []
structure cat062_Decode.OK (h : cat062_Decode.Hs) : Prop where
 l0 : ∀ {H0 H : Hp} {L : Items} {r : Int × (List cat062_Report) × (Option Int)} {jk_ : Nat → Value} {b : List Int} {t2 : Int} {t3 : List cat062_Report} {t4 : Option Int} {out : List cat062_Report} {source : Int} {v_b : Value} {v_t3 : Value} {v_out : Value} {i_out : Item'} (_ : H0.le H) (_he : h.l0 b t2 t3 t4 out source = some r) (_h_b : Ro kU8 H v_b b) (_h_t3 : Ro k_cat062_Report H v_t3 t3) (_h_out : Sl k_cat062_Report H 70 i_out v_out out), Wp Tryd.prog 31 52 cat062_Decode.Kl0 (upd (upd (upd (upd (upd (upd jk_ 0 (v_b)) 2 (.int .u16 t2)) 3 (v_t3)) 4 (errV 73 t4)) 6 (v_out)) 7 (.int .u16 source)) H (i_out :: L) (cat062_Decode.R H0 L r)
theorem cat062_Decode.b0_ok {k : Nat} {h : cat062_Decode.Hs} (hh : cat062_Decode.OK h) {H0 H : Hp} {L : Items} {r : Int × (List cat062_Report) × (Option Int)} {jk_ : Nat → Value} {b : List Int} {t2 : Int} {t3 : List cat062_Report} {t4 : Option Int} {out : List cat062_Report} {source : Int} {v_b : Value} {v_t3 : Value} {v_out : Value} {i_out : Item'} (hle : H0.le H) (he : cat062_Decode.b0 k h b t2 t3 t4 out source = some r) (h_b : Ro kU8 H v_b b) (h_t3 : Ro k_cat062_Report H v_t3 t3) (h_out : Sl k_cat062_Report H 70 i_out v_out out) : Wp Tryd.prog 31 52 cat062_Decode.Kl0 (upd (upd (upd (upd (upd (upd jk_ 0 (v_b)) 2 (.int .u16 t2)) 3 (v_t3)) 4 (errV 73 t4)) 6 (v_out)) 7 (.int .u16 source)) H (i_out :: L) (cat062_Decode.R H0 L r) := by
 unfold cat062_Decode.b0 at he
 unfold cat062_Decode.Kl0
 refine w_seq <| wR rfl <| wM v_b rfl rfl <| w_d rfl (d_len Tryd.underlying26 rfl h_b.src) <| w_d rfl (d_gtr rfl rfl) <| w_done ?_
 rcases its he with ⟨c9, he⟩ | ⟨c9, he⟩
 ·
  refine w_then rfl (dt c9) <| w_skip <| w_seq <| w_block <| wR rfl <| wM v_b rfl rfl ?_
  obtain ⟨y10, hy11, he⟩ := bs he
  refine w_d rfl (call_d (o_call co52 (vs := [v_b]) rfl (cat062_record.calls k hy11 h_b))) <| wM (.tuple ⟨[.int .u16 y10.1, .agg ⟨[.int .u16 y10.2.1.f_ID, .int .i64 y10.2.1.f_Time, .int .i32 y10.2.1.f_X, .int .i32 y10.2.1.f_Y, .int .i16 y10.2.1.f_VX, .int .i16 y10.2.1.f_VY, .int .u8 y10.2.1.f_State]⟩, errV 73 y10.2.2]⟩) rfl rfl <| w_d rfl (d_ext (vs := [.int .u16 y10.1, .agg ⟨[.int .u16 y10.2.1.f_ID, .int .i64 y10.2.1.f_Time, .int .i32 y10.2.1.f_X, .int .i32 y10.2.1.f_Y, .int .i16 y10.2.1.f_VX, .int .i16 y10.2.1.f_VY, .int .u8 y10.2.1.f_State]⟩, errV 73 y10.2.2]) rfl rfl) <| w_d rfl (d_ext (vs := [.int .u16 y10.1, .agg ⟨[.int .u16 y10.2.1.f_ID, .int .i64 y10.2.1.f_Time, .int .i32 y10.2.1.f_X, .int .i32 y10.2.1.f_Y, .int .i16 y10.2.1.f_VX, .int .i16 y10.2.1.f_VY, .int .u8 y10.2.1.f_State]⟩, errV 73 y10.2.2]) rfl rfl) <| w_d rfl (d_ext (vs := [.int .u16 y10.1, .agg ⟨[.int .u16 y10.2.1.f_ID, .int .i64 y10.2.1.f_Time, .int .i32 y10.2.1.f_X, .int .i32 y10.2.1.f_Y, .int .i16 y10.2.1.f_VX, .int .i16 y10.2.1.f_VY, .int .u8 y10.2.1.f_State]⟩, errV 73 y10.2.2]) rfl rfl) <| w_a rfl (o_alloc zr70 rfl) ?_
  rintro _ _ _ ⟨b14, rfl, rfl, rfl⟩
  refine wA (.int .u16 y10.1) rfl rfl <| w_a0 rfl (o_store (v := .agg ⟨[.int .u16 y10.2.1.f_ID, .int .i64 y10.2.1.f_Time, .int .i32 y10.2.1.f_X, .int .i32 y10.2.1.f_Y, .int .i16 y10.2.1.f_VX, .int .i16 y10.2.1.f_VY, .int .u8 y10.2.1.f_State]⟩) sz70 rfl rfl rfl rfl (oc rfl (oc rfl (oc rfl (oc rfl (oc rfl (oc rfl (oc rfl oz))))))) .here (.here (.here (.here u4)))) ?_
  rintro _ _ _ ⟨rfl, rfl, rfl⟩
  refine wA (errV 73 y10.2.2) rfl rfl <| wE <| wR rfl <| wM (errV 73 y10.2.2) rfl rfl <| w_d rfl (d_nenil (e := y10.2.2) Tryd.underlying28 rfl) <| w_done ?_
  rcases its he with ⟨c15, he⟩ | ⟨c15, he⟩
  ·
   refine w_then rfl c15 <| wR rfl <| wM (errV 73 y10.2.2) rfl rfl <| wA (.int .u16 0) rfl rfl <| wA (.slice none 0 0) rfl rfl <| wA (errV 73 y10.2.2) rfl rfl <| w_done ?_
   obtain rfl := sj he
   refine w_return fn_31 rs_31 (.tmp (v := .int .u16 0) rfl (.tmp (v := .slice none 0 0) rfl (.tmp (v := errV 73 y10.2.2) rfl .nil))) <| ⟨⟨[_, _], rfl⟩, hle, ⟨.slice none 0 0, rfl, (ro_nil _ _)⟩⟩
  ·
   refine w_else rfl (Bool.eq_false_iff.2 c15) <| w_skip <| w_seq <| wR rfl <| wM v_out rfl rfl <| w_d rfl (d_lenS Tryd.underlying31 rfl h_out.shp) <| w_d rfl (d_gtr rfl rfl) <| wM (.bool (decide (0 < (out.length : Int)))) rfl rfl <| w_g (g := decide (0 < (out.length : Int))) rfl rfl rfl wn_t (fun g16 => d_move (v := .int .u16 y10.1) rfl) <| w_g (g := decide (0 < (out.length : Int))) rfl rfl rfl wn_t (fun g17 => d_move (v := .int .u16 source) rfl) <| w_g (g := decide (0 < (out.length : Int))) rfl rfl rfl wn_t (fun g18 => d_neq (cvt g18) (cvt g18)) ?_
   refine w_d rfl (d_and' (b := (decide (0 < (out.length : Int)))) (p := (!decide (y10.1 = source))) rfl rfl rfl) <| w_done ?_
   rcases its he with ⟨c19, he⟩ | ⟨c19, he⟩
   ·
    refine w_then rfl c19 <| wR rfl <| w_d rfl (d_iface (v := .int .i64 9) Tryd.underlying73 rfl rfl) <| wA (.int .u16 0) rfl rfl <| wA (.slice none 0 0) rfl rfl <| wA (errV 73 (some 9)) rfl rfl <| w_done ?_
    obtain rfl := sj he
    refine w_return fn_31 rs_31 (.tmp (v := .int .u16 0) rfl (.tmp (v := .slice none 0 0) rfl (.tmp (v := errV 73 (some 9)) rfl .nil))) <| ⟨⟨[_, _], rfl⟩, hle, ⟨.slice none 0 0, rfl, (ro_nil _ _)⟩⟩
   ·
    refine w_else rfl (Bool.eq_false_iff.2 c19) <| w_skip <| wR rfl <| wM (.int .u16 y10.1) rfl rfl <| wA (.int .u16 y10.1) rfl rfl <| w_done <| w_region rfl <| wM v_out rfl rfl <| wL (.agg ⟨[.int .u16 y10.2.1.f_ID, .int .i64 y10.2.1.f_Time, .int .i32 y10.2.1.f_X, .int .i32 y10.2.1.f_Y, .int .i16 y10.2.1.f_VX, .int .i16 y10.2.1.f_VY, .int .u8 y10.2.1.f_State]⟩) ty70 rfl rfl .here rfl rfl <| w_a rfl (o_buildSlice' (kd := k_cat062_Report) (css := [[.int .u16 y10.2.1.f_ID, .int .i64 y10.2.1.f_Time, .int .i32 y10.2.1.f_X, .int .i32 y10.2.1.f_Y, .int .i16 y10.2.1.f_VX, .int .i16 y10.2.1.f_VY, .int .u8 y10.2.1.f_State]]) (xs := [y10.2.1]) (parts := [(0, .agg ⟨[.int .u16 y10.2.1.f_ID, .int .i64 y10.2.1.f_Time, .int .i32 y10.2.1.f_X, .int .i32 y10.2.1.f_Y, .int .i16 y10.2.1.f_VX, .int .i16 y10.2.1.f_VY, .int .u8 y10.2.1.f_State]⟩)]) Tryd.underlying31 ti70 rfl ⟨_, _, rfl, rfl, rfl⟩ ⟨(k_cat062_Report_in (x := y10.2.1) ), trivial⟩ rfl (by decide)) ?_
    rintro v20 _ _ ⟨i21, rfl, rfl, h22⟩
    obtain ⟨c23, he⟩ := rq he
    refine w_a rfl (o_append' (kd := k_cat062_Report) (F := fun z_ => i21 :: some (b14, .cells ⟨[.int .u16 y10.2.1.f_ID, .int .i64 y10.2.1.f_Time, .int .i32 y10.2.1.f_X, .int .i32 y10.2.1.f_Y, .int .i16 y10.2.1.f_VX, .int .i16 y10.2.1.f_VY, .int .u8 y10.2.1.f_State]⟩ 70 (0, 0)) :: z_ :: L) Tryd.underlying31 Tryd.underlying31 ti70 rfl (by first | omega | (simp only [List.nil_append, List.length_cons, List.length_nil]; omega)) rfl rfl h_out (h22.src .here) (fun _ => (.there (.there .here)))) ?_
    rintro v24 _ _ ⟨i25, rfl, rfl, h26⟩
    refine wA v24 rfl rfl <| w_done <| w_inBlock <| w_region rfl <| wM v_b rfl rfl ?_
    obtain ⟨c27, he⟩ := rq he
    refine w_a rfl (o_cut (kd := kU8) Tryd.underlying26 sz5 rfl h_b (.inr ⟨_, _, rfl, rfl⟩) (.inl ⟨rfl, rfl⟩) c27) ?_
    rintro v28 _ _ ⟨h29, rfl, rfl⟩
    refine wA v28 rfl rfl <| w_done <| w_inLoop <| w_del (.there .here) <| w_del .here <| w_sl 0 (v28) rfl <| w_sl 2 (.int .u16 t2) rfl <| w_sl 3 (v_t3) rfl <| w_sl 4 (errV 73 t4) rfl <| w_sl 6 (v24) rfl <| w_sl 7 (.int .u16 y10.1) rfl <| hh.l0 hle he h29 h_t3 h26
 ·
  refine w_else rfl (df c9) <| w_exit rfl <| w_seq <| wR rfl <| wM v_out rfl rfl <| w_d rfl (d_lenS Tryd.underlying31 rfl h_out.shp) <| w_d rfl (d_gtr rfl rfl) <| w_done ?_
  rcases its he with ⟨c30, he⟩ | ⟨c30, he⟩
  ·
   refine w_then rfl (dt c30) <| wR rfl <| w_d rfl (d_iface (v := .int .i64 2) Tryd.underlying73 rfl rfl) <| wA (.int .u16 0) rfl rfl <| wA (.slice none 0 0) rfl rfl <| wA (errV 73 (some 2)) rfl rfl <| w_done ?_
   obtain rfl := sj he
   refine w_return fn_31 rs_31 (.tmp (v := .int .u16 0) rfl (.tmp (v := .slice none 0 0) rfl (.tmp (v := errV 73 (some 2)) rfl .nil))) <| ⟨⟨[_], rfl⟩, hle, ⟨.slice none 0 0, rfl, (ro_nil _ _)⟩⟩
  ·
   refine w_else rfl (df c30) <| w_skip <| wR rfl <| wM (.int .u16 source) rfl rfl <| wM v_out rfl rfl <| wA (.int .u16 source) rfl rfl <| wA v_out rfl rfl <| wA (errV 73 none) rfl rfl <| w_done <| w_freeze h_out .here ?_
   intro H31 e32 h33
   obtain rfl := sj he
   refine w_return fn_31 rs_31 (.tmp (v := .int .u16 source) rfl (.tmp (v := v_out) rfl (.tmp (v := errV 73 none) rfl .nil))) <| ⟨⟨[_], rfl⟩, hle.trans e32, ⟨v_out, rfl, h33⟩⟩
theorem cat062_Decode.ok : ∀ k, cat062_Decode.OK (cat062_Decode.hs k)
 | 0 => ⟨(by intros; exact nomatch (show none = some _ from by assumption))⟩
 | k + 1 => ⟨cat062_Decode.b0_ok (k := k) (cat062_Decode.ok k)⟩
theorem cat062_Decode.calls (k : Nat) {H : Hp} {L : Items} {b : List Int} {v0_b : Value} {r : Int × (List cat062_Report) × (Option Int)} (he : cat062_Decode.f k b = some r) (h0_b : Ro kU8 H v0_b b) : Ct Tryd.prog 31 ⟨[v0_b]⟩ H L (cR H L (cat062_Decode.out r)) := by
 refine ct_out (O := cat062_Decode.out r) ?_
 have hle : H.le H := .refl _
 have hh := cat062_Decode.ok k
 unfold cat062_Decode.f at he
 refine ct_enter (args := [v0_b]) fn_31 rfl nt_31 rfl <| wR rfl <| wA (.int .u16 0) rfl rfl <| wA (.slice none 0 0) rfl rfl <| wA (errV 73 none) rfl rfl <| wE <| wR rfl <| wM v0_b rfl rfl ?_
 obtain ⟨y1, hy2, he⟩ := bs he
 refine w_d rfl (call_d (o_call co51 (vs := [v0_b]) rfl (cat062_framed.calls k hy2 h0_b.src))) <| wA (errV 73 y1) rfl rfl <| wQ rfl <| wM (errV 73 y1) rfl rfl <| w_d rfl (d_nenil (e := y1) Tryd.underlying28 rfl) <| w_done ?_
 rcases its he with ⟨c5, he⟩ | ⟨c5, he⟩
 ·
  refine w_then rfl c5 <| wR rfl <| wM (errV 73 y1) rfl rfl <| wA (.int .u16 0) rfl rfl <| wA (.slice none 0 0) rfl rfl <| wA (errV 73 y1) rfl rfl <| w_done ?_
  obtain rfl := sj he
  refine w_return fn_31 rs_31 (.tmp (v := .int .u16 0) rfl (.tmp (v := .slice none 0 0) rfl (.tmp (v := errV 73 y1) rfl .nil))) <| ⟨⟨[], rfl⟩, hle, ⟨.slice none 0 0, rfl, (ro_nil _ _)⟩⟩
 ·
  refine w_else rfl (Bool.eq_false_iff.2 c5) <| w_skip <| wR rfl <| wA (.slice none 0 0) rfl rfl <| wQ rfl <| wA (.int .u16 0) rfl rfl <| wE <| w_seq ?_
  refine w_region rfl <| wM v0_b rfl rfl ?_
  obtain ⟨c6, he⟩ := rq he
  refine w_a rfl (o_cut (kd := kU8) Tryd.underlying26 sz5 rfl h0_b (.inr ⟨_, _, rfl, rfl⟩) (.inl ⟨rfl, rfl⟩) c6) ?_
  rintro v7 _ _ ⟨h8, rfl, rfl⟩
  refine wA v7 rfl rfl <| w_done <| w_block <| w_loop <| w_none <| w_sl 0 (v7) rfl <| w_sl 2 (.int .u16 0) rfl <| w_sl 3 (.slice none 0 0) rfl <| w_sl 4 (errV 73 none) rfl <| w_sl 6 (.slice none 0 0) rfl <| w_sl 7 (.int .u16 0) rfl <| hh.l0 hle he h8 (ro_nil _ _) (sl_nil _ _ _)
end Go.Proofs.YtlokgnjlnefbbaaDoor.GRW

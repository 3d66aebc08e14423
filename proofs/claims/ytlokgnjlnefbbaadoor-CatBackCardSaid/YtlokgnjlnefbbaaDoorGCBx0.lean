/- printed by gen.py -/
import Derived.Test.YtlokgnjlnefbbaaDoorGCBt
namespace Go.Proofs.YtlokgnjlnefbbaaDoor.GCB
open Go Go.RowKit Go.Proofs.YtlokgnjlnefbbaaDoorK Go.Proofs.YtlokgnjlnefbbaaDoor
set_option maxRecDepth 100000
set_option maxHeartbeats 2000000
set_option linter.unusedVariables false
set_option linter.unusedSimpArgs false
noncomputable def radomelaw28_giveRecords.C : Code := (Tryd.f26.body).getD .skip
abbrev radomelaw28_giveRecords.out (r : (List cat048_Record)) (H : Hp) (v : Value) : Prop := Ro k_cat048_Record H v r
abbrev radomelaw28_giveRecords.R (H0 : Hp) (L : Items) (r : (List cat048_Record)) := fR H0 L (radomelaw28_giveRecords.out r)
structure radomelaw28_giveRecords.Hs where
 l0 : (List radomeref28_Record) → (List cat048_Record) → Int → Option (List cat048_Record)
noncomputable def radomelaw28_giveRecords.b0 (k : Nat) (h : radomelaw28_giveRecords.Hs)  (l : List radomeref28_Record) (out : List cat048_Record) (i : Int) : Option (List cat048_Record) := if i < (l.length : Int) then (if (0 : Int) ≤ i ∧ i < (l.length : Int) then (if (0 : Int) ≤ i ∧ i < (l.length : Int) then (if (0 : Int) ≤ i ∧ i < (l.length : Int) then (if out.length + [(⟨(rd l i).f_Source, (⟨((rd l i).f_Plot).f_Range, ((rd l i).f_Plot).f_Azimuth, ((rd l i).f_Plot).f_Time⟩ : api_Plot), (rd l i).f_Is⟩ : cat048_Record)].length ≤ 3518437208787 then (h.l0 l (out ++ [(⟨(rd l i).f_Source, (⟨((rd l i).f_Plot).f_Range, ((rd l i).f_Plot).f_Azimuth, ((rd l i).f_Plot).f_Time⟩ : api_Plot), (rd l i).f_Is⟩ : cat048_Record)]) (w64 (i + 1))) else none) else none) else none) else none) else (some (out))
noncomputable def radomelaw28_giveRecords.hs : Nat → radomelaw28_giveRecords.Hs
 | 0 => ⟨fun _ _ _ => none⟩
 | k + 1 => ⟨fun x0 x1 x2 => radomelaw28_giveRecords.b0 k (radomelaw28_giveRecords.hs k) x0 x1 x2⟩
noncomputable def radomelaw28_giveRecords.f (k : Nat) (l : List radomeref28_Record) : Option (List cat048_Record) := (fun h : radomelaw28_giveRecords.Hs => h.l0 l [] 0) (radomelaw28_giveRecords.hs k)
noncomputable def radomelaw28_giveRecords.Kl0 : List Item := .code (lopB (blkB (seqR (seqL (seqR (seqR radomelaw28_giveRecords.C)))))) :: .inLoop (lopB (blkB (seqR (seqL (seqR (seqR radomelaw28_giveRecords.C)))))) :: .inBlock 0 :: .code (seqR (seqR (seqR radomelaw28_giveRecords.C))) :: []
structure radomelaw28_giveRecords.OK (h : radomelaw28_giveRecords.Hs) : Prop where
 l0 : ∀ {H0 H : Hp} {L : Items} {r : (List cat048_Record)} {jk_ : Nat → Value} {l : List radomeref28_Record} {out : List cat048_Record} {i : Int} {v_l : Value} {v_out : Value} {i_out : Item'} (_ : H0.le H) (_he : h.l0 l out i = some r) (_h_l : Src k_radomeref28_Record H L v_l l) (_h_out : Sl k_cat048_Record H 67 i_out v_out out), Wp Tryd.prog 26 31 radomelaw28_giveRecords.Kl0 (upd (upd (upd (upd jk_ 0 (v_l)) 2 (.slice none 0 0)) 3 (v_out)) 4 (.int .i64 i)) H (i_out :: L) (radomelaw28_giveRecords.R H0 L r)
theorem radomelaw28_giveRecords.b0_ok {k : Nat} {h : radomelaw28_giveRecords.Hs} (hh : radomelaw28_giveRecords.OK h) {H0 H : Hp} {L : Items} {r : (List cat048_Record)} {jk_ : Nat → Value} {l : List radomeref28_Record} {out : List cat048_Record} {i : Int} {v_l : Value} {v_out : Value} {i_out : Item'} (hle : H0.le H) (he : radomelaw28_giveRecords.b0 k h l out i = some r) (h_l : Src k_radomeref28_Record H L v_l l) (h_out : Sl k_cat048_Record H 67 i_out v_out out) : Wp Tryd.prog 26 31 radomelaw28_giveRecords.Kl0 (upd (upd (upd (upd jk_ 0 (v_l)) 2 (.slice none 0 0)) 3 (v_out)) 4 (.int .i64 i)) H (i_out :: L) (radomelaw28_giveRecords.R H0 L r) := by
 unfold radomelaw28_giveRecords.b0 at he
 unfold radomelaw28_giveRecords.Kl0
 refine w_seq <| wR rfl <| wM (.int .i64 i) rfl rfl <| wM v_l rfl rfl <| w_d rfl (d_len Tryd.underlying54 rfl h_l.th) <| w_d rfl (d_lss rfl rfl) <| w_done ?_
 rcases its he with ⟨c1, he⟩ | ⟨c1, he⟩
 ·
  refine w_then rfl (dt c1) <| w_skip <| w_seq <| w_block ?_
  obtain ⟨c2, he⟩ := rq he
  obtain ⟨_, l3, r4⟩ := el_of (kd := k_radomeref28_Record) h_l.th c2
  obtain ⟨rfl⟩ := k_radomeref28_Record_out r4
  obtain ⟨c5, he⟩ := rq he
  obtain ⟨_, l6, r7⟩ := el_of (kd := k_radomeref28_Record) h_l.th c5
  obtain ⟨rfl⟩ := k_radomeref28_Record_out r7
  obtain ⟨c8, he⟩ := rq he
  obtain ⟨_, l9, r10⟩ := el_of (kd := k_radomeref28_Record) h_l.th c8
  obtain ⟨rfl⟩ := k_radomeref28_Record_out r10
  refine w_none (?_)
  refine w_drawn (p := 18) (tl := [18, 19]) [[], [], [], [(1, some 12), (2, some 13)], [(3, some 14)], [(4, some 15)], [], [], [(6, some 17), (7, some 18)], [(8, some 19)], [(9, some 20)], [], [], [(11, some 22), (12, some 23)], [(13, some 24)], [(14, some 25)], [(5, some 16), (10, some 21), (15, some 26)], [(16, some 27)]] [some 11, some 12, some 13, some 14, some 15, some 16, some 17, some 18, some 19, some 20, some 21, some 22, some 23, some 24, some 25, some 26, some 27, some 28] (fctF (.is (v_out) :: .is (v_l) :: .is (.int .i64 i) :: .is (.pointer (some (pel v_l i 5))) :: .is (.pointer (some (pel v_l i 5))) :: .is (.int .u16 ((rd l i).f_Source)) :: .is (v_l) :: .is (.int .i64 i) :: .is (.pointer (some (pel v_l i 5))) :: .is (.pointer (some ((pel v_l i 5).add 1))) :: .is (.agg ⟨[.int .i64 (((rd l i).f_Plot).f_Range), .int .u16 (((rd l i).f_Plot).f_Azimuth), .int .i64 (((rd l i).f_Plot).f_Time)]⟩) :: .is (v_l) :: .is (.int .i64 i) :: .is (.pointer (some (pel v_l i 5))) :: .is (.pointer (some ((pel v_l i 5).add 4))) :: .is (.bool ((rd l i).f_Is)) :: .is (.agg ⟨[.int .u16 ((rd l i).f_Source), .int .i64 (((rd l i).f_Plot).f_Range), .int .u16 (((rd l i).f_Plot).f_Azimuth), .int .i64 (((rd l i).f_Plot).f_Time), .bool ((rd l i).f_Is)]⟩) :: .sl k_cat048_Record 67 [(⟨(rd l i).f_Source, (⟨((rd l i).f_Plot).f_Range, ((rd l i).f_Plot).f_Azimuth, ((rd l i).f_Plot).f_Time⟩ : api_Plot), (rd l i).f_Is⟩ : cat048_Record)] :: [])) (fun m_ => m_ 17 :: i_out :: L) (fun _ => none) mixed (by kernel_rfl) (by kernel_rfl) rfl (fct_mono (by kernel_rfl)) ⟨(fun H' m_ hH hm_ hu_ => dn <| s_d (m_ 0) rfl (d_move (v := v_out) rfl) (by exact rfl) rfl), (fun H' m_ hH hm_ hu_ => dn <| s_d (m_ 1) rfl (d_move (v := v_l) rfl) (by exact rfl) rfl), (fun H' m_ hH hm_ hu_ => dn <| s_d (m_ 2) rfl (d_move (v := .int .i64 i) rfl) (by exact rfl) rfl), (by rintro H' m_ hH hm_ hu_ _ rfl _ rfl; exact dn <| s_d (m_ 3) rfl (d_index (sz := 5) Tryd.underlying54 sz94 rfl (h_l.mono hH).th.th rfl c2) (by exact rfl) rfl), (by rintro H' m_ hH hm_ hu_ _ rfl; exact dn <| s_d (m_ 4) rfl (d_fieldAddr Tryd.underlying94 rfl sz22 rfl rfl) (by exact rfl) rfl), (by rintro H' m_ hH hm_ hu_ _ rfl; exact dn <| s_d (m_ 5) rfl (d_load (v := .int .u16 ((rd l i).f_Source)) (cs := [.int .u16 ((rd l i).f_Source)]) ty22 rfl rfl (by decide) (((l3.mono hH).th).part 0 1) rfl) (by exact rfl) rfl), (fun H' m_ hH hm_ hu_ => dn <| s_d (m_ 6) rfl (d_move (v := v_l) rfl) (by exact rfl) rfl), (fun H' m_ hH hm_ hu_ => dn <| s_d (m_ 7) rfl (d_move (v := .int .i64 i) rfl) (by exact rfl) rfl), (by rintro H' m_ hH hm_ hu_ _ rfl _ rfl; exact dn <| s_d (m_ 8) rfl (d_index (sz := 5) Tryd.underlying54 sz94 rfl (h_l.mono hH).th.th rfl c5) (by exact rfl) rfl), (by rintro H' m_ hH hm_ hu_ _ rfl; exact dn <| s_d (m_ 9) rfl (d_fieldAddr Tryd.underlying94 rfl sz92 rfl rfl) (by exact rfl) rfl), (by rintro H' m_ hH hm_ hu_ _ rfl; exact dn <| s_d (m_ 10) rfl (d_load (v := .agg ⟨[.int .i64 (((rd l i).f_Plot).f_Range), .int .u16 (((rd l i).f_Plot).f_Azimuth), .int .i64 (((rd l i).f_Plot).f_Time)]⟩) (cs := [.int .i64 (((rd l i).f_Plot).f_Range), .int .u16 (((rd l i).f_Plot).f_Azimuth), .int .i64 (((rd l i).f_Plot).f_Time)]) ty92 rfl rfl (by decide) (((l6.mono hH).th).part 1 3) rfl) (by exact rfl) rfl), (fun H' m_ hH hm_ hu_ => dn <| s_d (m_ 11) rfl (d_move (v := v_l) rfl) (by exact rfl) rfl), (fun H' m_ hH hm_ hu_ => dn <| s_d (m_ 12) rfl (d_move (v := .int .i64 i) rfl) (by exact rfl) rfl), (by rintro H' m_ hH hm_ hu_ _ rfl _ rfl; exact dn <| s_d (m_ 13) rfl (d_index (sz := 5) Tryd.underlying54 sz94 rfl (h_l.mono hH).th.th rfl c8) (by exact rfl) rfl), (by rintro H' m_ hH hm_ hu_ _ rfl; exact dn <| s_d (m_ 14) rfl (d_fieldAddr Tryd.underlying94 rfl sz4 rfl rfl) (by exact rfl) rfl), (by rintro H' m_ hH hm_ hu_ _ rfl; exact dn <| s_d (m_ 15) rfl (d_load (v := .bool ((rd l i).f_Is)) (cs := [.bool ((rd l i).f_Is)]) ty4 rfl rfl (by decide) (((l9.mono hH).th).part 4 1) rfl) (by exact rfl) rfl), (by rintro H' m_ hH hm_ hu_ _ rfl _ rfl _ rfl; exact dn <| s_d (m_ 16) rfl (d_build (cs' := [.int .u16 ((rd l i).f_Source), .int .i64 (((rd l i).f_Plot).f_Range), .int .u16 (((rd l i).f_Plot).f_Azimuth), .int .i64 (((rd l i).f_Plot).f_Time), .bool ((rd l i).f_Is)]) Tryd.underlying67 zr67 rfl (by kernel_rfl) (parts := [(0, .int .u16 ((rd l i).f_Source)), (1, .agg ⟨[.int .i64 (((rd l i).f_Plot).f_Range), .int .u16 (((rd l i).f_Plot).f_Azimuth), .int .i64 (((rd l i).f_Plot).f_Time)]⟩), (2, .bool ((rd l i).f_Is))]) rfl (.cons (place_of rfl sz22 rfl) rfl rfl u1 (.cons (place_of rfl sz65 rfl) rfl rfl (.there (.here u2)) (.cons (place_of rfl sz4 rfl) rfl rfl (.there (.there (.there (.there u1)))) .nil)))) (by exact rfl) rfl), (by rintro H' m_ hH hm_ hu_ _ rfl; exact dn <| s_sl hm_ rfl rfl (o_buildSlice' (kd := k_cat048_Record) (css := [[.int .u16 ((rd l i).f_Source), .int .i64 (((rd l i).f_Plot).f_Range), .int .u16 (((rd l i).f_Plot).f_Azimuth), .int .i64 (((rd l i).f_Plot).f_Time), .bool ((rd l i).f_Is)]]) (xs := [(⟨(rd l i).f_Source, (⟨((rd l i).f_Plot).f_Range, ((rd l i).f_Plot).f_Azimuth, ((rd l i).f_Plot).f_Time⟩ : api_Plot), (rd l i).f_Is⟩ : cat048_Record)]) (parts := [(0, .agg ⟨[.int .u16 ((rd l i).f_Source), .int .i64 (((rd l i).f_Plot).f_Range), .int .u16 (((rd l i).f_Plot).f_Azimuth), .int .i64 (((rd l i).f_Plot).f_Time), .bool ((rd l i).f_Is)]⟩)]) Tryd.underlying56 ti67 rfl ⟨_, _, rfl, rfl, rfl⟩ ⟨(k_cat048_Record_in (x := ⟨(rd l i).f_Source, ⟨((rd l i).f_Plot).f_Range, ((rd l i).f_Plot).f_Azimuth, ((rd l i).f_Plot).f_Time⟩, (rd l i).f_Is⟩) ), trivial⟩ rfl (by decide)) rfl (fun _ => .here) (by exact fun _ _ h_ => h_)), trivial⟩ ?_
  intro H14 e15
  rintro _ _ rfl _ _ rfl _ _ rfl _ _ rfl _ _ rfl _ _ rfl _ _ rfl _ _ rfl _ _ rfl _ _ rfl _ _ rfl _ _ rfl _ _ rfl _ _ rfl _ _ rfl _ _ rfl _ _ rfl v11 i12 (h13 : Sl k_cat048_Record H14 67 i12 v11 [(⟨(rd l i).f_Source, (⟨((rd l i).f_Plot).f_Range, ((rd l i).f_Plot).f_Azimuth, ((rd l i).f_Plot).f_Time⟩ : api_Plot), (rd l i).f_Is⟩ : cat048_Record)])
  obtain ⟨c16, he⟩ := rq he
  refine w_a rfl (o_append' (kd := k_cat048_Record) (F := fun z_ => i12 :: z_ :: L) Tryd.underlying56 Tryd.underlying56 ti67 rfl (by first | omega | (simp only [List.nil_append, List.length_cons, List.length_nil]; omega)) rfl rfl (h_out.mono e15) (h13.src .here) (fun _ => (.there .here))) ?_
  rintro v17 _ _ ⟨i18, rfl, rfl, h19⟩
  refine wA v17 rfl rfl <| w_done <| w_inBlock <| w_region rfl <| wM (.int .i64 i) rfl rfl <| w_d rfl (d_add (c := w64 (i + 1)) rfl rfl rfl) <| wA (.int .i64 (w64 (i + 1))) rfl rfl <| w_done <| w_inLoop <| w_del .here <| w_sl 0 (v_l) rfl <| w_sl 2 (.slice none 0 0) rfl ?_
  refine w_sl 3 (v17) rfl <| w_sl 4 (.int .i64 (w64 (i + 1))) rfl <| hh.l0 (hle.trans e15) he (h_l.mono e15) h19
 ·
  refine w_else rfl (df c1) <| w_exit rfl <| wR rfl <| wM v_out rfl rfl <| wA v_out rfl rfl <| w_done <| w_freeze h_out .here ?_
  intro H20 e21 h22
  obtain rfl := sj he
  refine w_return fn_26 rs_26 (.tmp (v := v_out) rfl .nil) <| ⟨⟨[_], rfl⟩, hle.trans e21, h22⟩
theorem radomelaw28_giveRecords.ok : ∀ k, radomelaw28_giveRecords.OK (radomelaw28_giveRecords.hs k)
 | 0 => ⟨(by intros; exact nomatch (show none = some _ from by assumption))⟩
 | k + 1 => ⟨radomelaw28_giveRecords.b0_ok (k := k) (radomelaw28_giveRecords.ok k)⟩
theorem radomelaw28_giveRecords.calls (k : Nat) {H : Hp} {L : Items} {l : List radomeref28_Record} {v0_l : Value} {r : (List cat048_Record)} (he : radomelaw28_giveRecords.f k l = some r) (h0_l : Src k_radomeref28_Record H L v0_l l) : Ct Tryd.prog 26 ⟨[v0_l]⟩ H L (cR H L (radomelaw28_giveRecords.out r)) := by
 refine ct_out (O := radomelaw28_giveRecords.out r) ?_
 have hle : H.le H := .refl _
 have hh := radomelaw28_giveRecords.ok k
 unfold radomelaw28_giveRecords.f at he
 refine ct_enter (args := [v0_l]) fn_26 rfl nt_26 rfl <| wR rfl <| wA (.slice none 0 0) rfl rfl <| wQ rfl <| wA (.slice none 0 0) rfl rfl <| wE <| wR rfl ?_
 refine wA (.int .i64 0) rfl rfl <| w_done <| w_block <| w_loop <| w_none <| w_sl 0 (v0_l) rfl <| w_sl 2 (.slice none 0 0) rfl <| w_sl 3 (.slice none 0 0) rfl <| w_sl 4 (.int .i64 0) rfl <| hh.l0 hle he h0_l (sl_nil _ _ _)
noncomputable def cat048_Record_may.C : Code := (Tryd.f46.body).getD .skip
def cat048_Record_may.out (r : Bool) (H : Hp) (v : Value) : Prop := v = .bool r
noncomputable def cat048_Record_may.f (k : Nat) (r_ : cat048_Record) : Option Bool := some (((((r_.f_Is && (decide (0 ≤ r_.f_Plot.f_Time))) && (decide (r_.f_Plot.f_Time < 11059200))) && (decide (0 ≤ r_.f_Plot.f_Range))) && (decide ((Int.tmod r_.f_Plot.f_Range 7585792) = 0))) && (decide ((w64 (Int.tdiv r_.f_Plot.f_Range 7585792)) < 65536)))
theorem cat048_Record_may.mono : ∀ k y0, LeO (cat048_Record_may.f k y0) (cat048_Record_may.f (k + 1) y0) := fun k _ => by unfold cat048_Record_may.f; exact (LeO.refl _)
theorem cat048_Record_may.calls (k : Nat) {H : Hp} {L : Items} {r_ : cat048_Record} {r : Bool} (he : cat048_Record_may.f k r_ = some r) : Ct Tryd.prog 46 ⟨[.agg ⟨[.int .u16 r_.f_Source, .int .i64 r_.f_Plot.f_Range, .int .u16 r_.f_Plot.f_Azimuth, .int .i64 r_.f_Plot.f_Time, .bool r_.f_Is]⟩]⟩ H L (fun v H' L' => L = L' ∧ H = H' ∧ v = .bool r) := by
 refine ct_outs (O := cat048_Record_may.out r) (fun _ _ h => h) ?_
 have hle : H.le H := .refl _
 unfold cat048_Record_may.f at he
 refine ct_enter (args := [.agg ⟨[.int .u16 r_.f_Source, .int .i64 r_.f_Plot.f_Range, .int .u16 r_.f_Plot.f_Azimuth, .int .i64 r_.f_Plot.f_Time, .bool r_.f_Is]⟩]) fn_46 rfl nt_46 rfl <| wR rfl <| w_a rfl (o_box (v := .agg ⟨[.int .u16 r_.f_Source, .int .i64 r_.f_Plot.f_Range, .int .u16 r_.f_Plot.f_Azimuth, .int .i64 r_.f_Plot.f_Time, .bool r_.f_Is]⟩) rfl rfl) ?_
 rintro _ _ _ ⟨b1, rfl, rfl, rfl⟩
 refine wA (.bool false) rfl rfl <| wQ rfl <| w_d rfl (d_fld (o' := 1) Tryd.underlying67 rfl sz65 rfl rfl rfl) <| w_d rfl (d_fld (o' := 1) Tryd.underlying65 rfl sz2 rfl rfl rfl) <| wL (.int .i64 r_.f_Plot.f_Range) ty2 rfl rfl .here rfl rfl <| wA (.int .i64 r_.f_Plot.f_Range) rfl rfl <| wQ rfl <| w_d rfl (d_fld (o' := 4) Tryd.underlying67 rfl sz4 rfl rfl rfl) ?_
 refine wL (.bool r_.f_Is) ty4 rfl rfl .here rfl rfl <| wM (.bool r_.f_Is) rfl rfl <| w_g (g := r_.f_Is) rfl rfl rfl wn_t (fun g2 => d_fld (o' := 1) Tryd.underlying67 rfl sz65 rfl rfl rfl) <| w_g (g := r_.f_Is) rfl rfl rfl wn_t (fun g3 => d_fld (o' := 3) Tryd.underlying65 rfl sz2 rfl (cvt g3) rfl) <| w_g (g := r_.f_Is) rfl rfl rfl wn_t (fun g4 => d_loado (v := .int .i64 r_.f_Plot.f_Time) ty2 (cvt g4) .here rfl rfl rfl rfl) <| w_g (g := r_.f_Is) rfl rfl rfl wn_t (fun g5 => d_geq (cvt g5) rfl) <| w_d rfl (d_and' (b := r_.f_Is) (p := (decide (0 ≤ r_.f_Plot.f_Time))) rfl rfl rfl) <| wM (.bool (r_.f_Is && (decide (0 ≤ r_.f_Plot.f_Time)))) rfl rfl <| w_g (g := r_.f_Is && (decide (0 ≤ r_.f_Plot.f_Time))) rfl rfl rfl wn_t (fun g6 => d_fld (o' := 1) Tryd.underlying67 rfl sz65 rfl rfl rfl) <| w_g (g := r_.f_Is && (decide (0 ≤ r_.f_Plot.f_Time))) rfl rfl rfl wn_t (fun g7 => d_fld (o' := 3) Tryd.underlying65 rfl sz2 rfl (cvt g7) rfl) <| w_g (g := r_.f_Is && (decide (0 ≤ r_.f_Plot.f_Time))) rfl rfl rfl wn_t (fun g8 => d_loado (v := .int .i64 r_.f_Plot.f_Time) ty2 (cvt g8) .here rfl rfl rfl rfl) <| w_g (g := r_.f_Is && (decide (0 ≤ r_.f_Plot.f_Time))) rfl rfl rfl wn_t (fun g9 => d_lss (cvt g9) rfl) ?_
 refine w_d rfl (d_and' (b := (r_.f_Is && (decide (0 ≤ r_.f_Plot.f_Time)))) (p := (decide (r_.f_Plot.f_Time < 11059200))) rfl rfl rfl) <| wM (.bool ((r_.f_Is && (decide (0 ≤ r_.f_Plot.f_Time))) && (decide (r_.f_Plot.f_Time < 11059200)))) rfl rfl <| w_g (g := (r_.f_Is && (decide (0 ≤ r_.f_Plot.f_Time))) && (decide (r_.f_Plot.f_Time < 11059200))) rfl rfl rfl wn_t (fun g10 => d_move (v := .int .i64 r_.f_Plot.f_Range) rfl) <| w_g (g := (r_.f_Is && (decide (0 ≤ r_.f_Plot.f_Time))) && (decide (r_.f_Plot.f_Time < 11059200))) rfl rfl rfl wn_t (fun g11 => d_geq (cvt g11) rfl) <| w_d rfl (d_and' (b := ((r_.f_Is && (decide (0 ≤ r_.f_Plot.f_Time))) && (decide (r_.f_Plot.f_Time < 11059200)))) (p := (decide (0 ≤ r_.f_Plot.f_Range))) rfl rfl rfl) <| wM (.bool (((r_.f_Is && (decide (0 ≤ r_.f_Plot.f_Time))) && (decide (r_.f_Plot.f_Time < 11059200))) && (decide (0 ≤ r_.f_Plot.f_Range)))) rfl rfl <| w_g (g := ((r_.f_Is && (decide (0 ≤ r_.f_Plot.f_Time))) && (decide (r_.f_Plot.f_Time < 11059200))) && (decide (0 ≤ r_.f_Plot.f_Range))) rfl rfl rfl wn_t (fun g12 => d_move (v := .int .i64 r_.f_Plot.f_Range) rfl) <| w_g (g := ((r_.f_Is && (decide (0 ≤ r_.f_Plot.f_Time))) && (decide (r_.f_Plot.f_Time < 11059200))) && (decide (0 ≤ r_.f_Plot.f_Range))) rfl rfl rfl wn_t (fun g13 => d_rem (cvt g13) rfl (by decide)) <| w_g (g := ((r_.f_Is && (decide (0 ≤ r_.f_Plot.f_Time))) && (decide (r_.f_Plot.f_Time < 11059200))) && (decide (0 ≤ r_.f_Plot.f_Range))) rfl rfl rfl wn_t (fun g14 => d_eql (cvt g14) rfl) <| w_d rfl (d_and' (b := (((r_.f_Is && (decide (0 ≤ r_.f_Plot.f_Time))) && (decide (r_.f_Plot.f_Time < 11059200))) && (decide (0 ≤ r_.f_Plot.f_Range)))) (p := (decide ((Int.tmod r_.f_Plot.f_Range 7585792) = 0))) rfl rfl rfl) <| wM (.bool ((((r_.f_Is && (decide (0 ≤ r_.f_Plot.f_Time))) && (decide (r_.f_Plot.f_Time < 11059200))) && (decide (0 ≤ r_.f_Plot.f_Range))) && (decide ((Int.tmod r_.f_Plot.f_Range 7585792) = 0)))) rfl rfl <| w_g (g := (((r_.f_Is && (decide (0 ≤ r_.f_Plot.f_Time))) && (decide (r_.f_Plot.f_Time < 11059200))) && (decide (0 ≤ r_.f_Plot.f_Range))) && (decide ((Int.tmod r_.f_Plot.f_Range 7585792) = 0))) rfl rfl rfl wn_t (fun g15 => d_move (v := .int .i64 r_.f_Plot.f_Range) rfl) ?_
 refine w_g (g := (((r_.f_Is && (decide (0 ≤ r_.f_Plot.f_Time))) && (decide (r_.f_Plot.f_Time < 11059200))) && (decide (0 ≤ r_.f_Plot.f_Range))) && (decide ((Int.tmod r_.f_Plot.f_Range 7585792) = 0))) rfl rfl rfl wn_t (fun g16 => d_quo (c := w64 (Int.tdiv r_.f_Plot.f_Range 7585792)) (cvt g16) rfl (by decide) rfl) <| w_g (g := (((r_.f_Is && (decide (0 ≤ r_.f_Plot.f_Time))) && (decide (r_.f_Plot.f_Time < 11059200))) && (decide (0 ≤ r_.f_Plot.f_Range))) && (decide ((Int.tmod r_.f_Plot.f_Range 7585792) = 0))) rfl rfl rfl wn_t (fun g17 => d_lss (cvt g17) rfl) <| w_d rfl (d_and' (b := ((((r_.f_Is && (decide (0 ≤ r_.f_Plot.f_Time))) && (decide (r_.f_Plot.f_Time < 11059200))) && (decide (0 ≤ r_.f_Plot.f_Range))) && (decide ((Int.tmod r_.f_Plot.f_Range 7585792) = 0)))) (p := (decide ((w64 (Int.tdiv r_.f_Plot.f_Range 7585792)) < 65536))) rfl rfl rfl) <| wA (.bool (((((r_.f_Is && (decide (0 ≤ r_.f_Plot.f_Time))) && (decide (r_.f_Plot.f_Time < 11059200))) && (decide (0 ≤ r_.f_Plot.f_Range))) && (decide ((Int.tmod r_.f_Plot.f_Range 7585792) = 0))) && (decide ((w64 (Int.tdiv r_.f_Plot.f_Range 7585792)) < 65536)))) rfl rfl <| w_done ?_
 obtain rfl := sj he
 refine w_return fn_46 rs_46 (.tmp (v := .bool (((((r_.f_Is && (decide (0 ≤ r_.f_Plot.f_Time))) && (decide (r_.f_Plot.f_Time < 11059200))) && (decide (0 ≤ r_.f_Plot.f_Range))) && (decide ((Int.tmod r_.f_Plot.f_Range 7585792) = 0))) && (decide ((w64 (Int.tdiv r_.f_Plot.f_Range 7585792)) < 65536)))) rfl .nil) <| ⟨⟨[_], rfl⟩, hle, rfl⟩
noncomputable def cat048_Record_bytes.C : Code := (Tryd.f47.body).getD .skip
abbrev cat048_Record_bytes.out (r : (List Int)) (H : Hp) (v : Value) : Prop := Ro kU8 H v r
noncomputable def cat048_Record_bytes.f (k : Nat) (r_ : cat048_Record) : Option (List Int) := some ([208, (r_.f_Source / 256) % 256, (r_.f_Source) % 256, (r_.f_Plot.f_Time / 65536) % 256, (r_.f_Plot.f_Time / 256) % 256, (r_.f_Plot.f_Time) % 256, ((w64 (Int.tdiv r_.f_Plot.f_Range 7585792)) / 256) % 256, (w64 (Int.tdiv r_.f_Plot.f_Range 7585792)) % 256, (r_.f_Plot.f_Azimuth / 256) % 256, (r_.f_Plot.f_Azimuth) % 256])
theorem cat048_Record_bytes.mono : ∀ k y0, LeO (cat048_Record_bytes.f k y0) (cat048_Record_bytes.f (k + 1) y0) := fun k _ => by unfold cat048_Record_bytes.f; exact (LeO.refl _)
theorem cat048_Record_bytes.calls (k : Nat) {H : Hp} {L : Items} {r_ : cat048_Record} {r : (List Int)} (he : cat048_Record_bytes.f k r_ = some r) : Ct Tryd.prog 47 ⟨[.agg ⟨[.int .u16 r_.f_Source, .int .i64 r_.f_Plot.f_Range, .int .u16 r_.f_Plot.f_Azimuth, .int .i64 r_.f_Plot.f_Time, .bool r_.f_Is]⟩]⟩ H L (cR H L (cat048_Record_bytes.out r)) := by
 refine ct_out (O := cat048_Record_bytes.out r) ?_
 have hle : H.le H := .refl _
 unfold cat048_Record_bytes.f at he
 refine ct_enter (args := [.agg ⟨[.int .u16 r_.f_Source, .int .i64 r_.f_Plot.f_Range, .int .u16 r_.f_Plot.f_Azimuth, .int .i64 r_.f_Plot.f_Time, .bool r_.f_Is]⟩]) fn_47 rfl nt_47 rfl <| wR rfl <| w_a rfl (o_box (v := .agg ⟨[.int .u16 r_.f_Source, .int .i64 r_.f_Plot.f_Range, .int .u16 r_.f_Plot.f_Azimuth, .int .i64 r_.f_Plot.f_Time, .bool r_.f_Is]⟩) rfl rfl) ?_
 rintro _ _ _ ⟨b1, rfl, rfl, rfl⟩
 refine wA (.slice none 0 0) rfl rfl <| wE <| w_drawn (p := 8) (tl := [8]) [[], [(0, some 5)], [(1, some 6)], [], [(3, some 8)], [(4, some 9)], [(5, some 10)], [(2, some 7)]] [some 5, some 6, some 7, some 8, some 9, some 10, some 11, some 3] (fctF (.is (.pointer (some ⟨b1, 1, none⟩)) :: .is (.pointer (some ⟨b1, 3, none⟩)) :: .is (.int .i64 r_.f_Plot.f_Time) :: .is (.pointer (some ⟨b1, 1, none⟩)) :: .is (.pointer (some ⟨b1, 1, none⟩)) :: .is (.int .i64 r_.f_Plot.f_Range) :: .is (.int .i64 (w64 (Int.tdiv r_.f_Plot.f_Range 7585792))) :: .is (.int .i64 r_.f_Plot.f_Time) :: [])) (fun m_ => some (b1, .cells ⟨[.int .u16 r_.f_Source, .int .i64 r_.f_Plot.f_Range, .int .u16 r_.f_Plot.f_Azimuth, .int .i64 r_.f_Plot.f_Time, .bool r_.f_Is]⟩ 67 (0, 0)) :: L) (fun _ => none) mixed (by kernel_rfl) (by kernel_rfl) rfl (fct_mono (by kernel_rfl)) ⟨(fun H' m_ hH hm_ hu_ => dn <| s_d (m_ 0) rfl (d_fld (o' := 1) Tryd.underlying67 rfl sz65 rfl rfl rfl) (by exact rfl) rfl), (by rintro H' m_ hH hm_ hu_ _ rfl; exact dn <| s_d (m_ 1) rfl (d_fld (o' := 3) Tryd.underlying65 rfl sz2 rfl rfl rfl) (by exact rfl) rfl), (by rintro H' m_ hH hm_ hu_ _ rfl; exact dn <| s_d (m_ 2) rfl (d_loado (v := .int .i64 r_.f_Plot.f_Time) ty2 rfl .here rfl rfl rfl rfl) (by exact rfl) rfl), (fun H' m_ hH hm_ hu_ => dn <| s_d (m_ 3) rfl (d_fld (o' := 1) Tryd.underlying67 rfl sz65 rfl rfl rfl) (by exact rfl) rfl), (by rintro H' m_ hH hm_ hu_ _ rfl; exact dn <| s_d (m_ 4) rfl (d_fld (o' := 1) Tryd.underlying65 rfl sz2 rfl rfl rfl) (by exact rfl) rfl), (by rintro H' m_ hH hm_ hu_ _ rfl; exact dn <| s_d (m_ 5) rfl (d_loado (v := .int .i64 r_.f_Plot.f_Range) ty2 rfl .here rfl rfl rfl rfl) (by exact rfl) rfl), (by rintro H' m_ hH hm_ hu_ _ rfl; exact dn <| s_d (m_ 6) rfl (d_quo (c := w64 (Int.tdiv r_.f_Plot.f_Range 7585792)) rfl rfl (by decide) rfl) (by exact rfl) rfl), (by rintro H' m_ hH hm_ hu_ _ rfl; exact dn <| s_d (m_ 7) rfl (d_assign (v := .int .i64 r_.f_Plot.f_Time) rfl) (by exact rfl) rfl), trivial⟩ ?_
 intro H2 e3
 rintro _ _ rfl _ _ rfl _ _ rfl _ _ rfl _ _ rfl _ _ rfl _ _ rfl _ _ rfl
 refine wA (.int .i64 (w64 (Int.tdiv r_.f_Plot.f_Range 7585792))) rfl rfl <| wQ rfl <| w_d rfl (d_fld (o' := 0) Tryd.underlying67 rfl sz22 rfl rfl rfl) <| wL (.int .u16 r_.f_Source) ty22 rfl rfl .here rfl rfl <| w_d rfl (d_shr (c := r_.f_Source / 256) rfl rfl (by decide) rfl) <| w_d rfl (d_conv (c := (r_.f_Source / 256) % 256) Tryd.underlying22 Tryd.underlying5 rfl rfl) <| w_d rfl (d_fld (o' := 0) Tryd.underlying67 rfl sz22 rfl rfl rfl) <| wL (.int .u16 r_.f_Source) ty22 rfl rfl .here rfl rfl <| w_d rfl (d_conv (c := (r_.f_Source) % 256) Tryd.underlying22 Tryd.underlying5 rfl rfl) <| wM (.int .i64 r_.f_Plot.f_Time) rfl rfl ?_
 refine w_d rfl (d_shr (c := r_.f_Plot.f_Time / 65536) rfl rfl (by decide) rfl) <| w_d rfl (d_conv (c := (r_.f_Plot.f_Time / 65536) % 256) Tryd.underlying2 Tryd.underlying5 rfl rfl) <| wM (.int .i64 r_.f_Plot.f_Time) rfl rfl <| w_d rfl (d_shr (c := r_.f_Plot.f_Time / 256) rfl rfl (by decide) rfl) <| w_d rfl (d_conv (c := (r_.f_Plot.f_Time / 256) % 256) Tryd.underlying2 Tryd.underlying5 rfl rfl) <| wM (.int .i64 r_.f_Plot.f_Time) rfl rfl <| w_d rfl (d_conv (c := (r_.f_Plot.f_Time) % 256) Tryd.underlying2 Tryd.underlying5 rfl rfl) <| wM (.int .i64 (w64 (Int.tdiv r_.f_Plot.f_Range 7585792))) rfl rfl <| w_d rfl (d_shr (c := (w64 (Int.tdiv r_.f_Plot.f_Range 7585792)) / 256) rfl rfl (by decide) rfl) <| w_d rfl (d_conv (c := ((w64 (Int.tdiv r_.f_Plot.f_Range 7585792)) / 256) % 256) Tryd.underlying2 Tryd.underlying5 rfl rfl) <| wM (.int .i64 (w64 (Int.tdiv r_.f_Plot.f_Range 7585792))) rfl rfl <| w_d rfl (d_conv (c := (w64 (Int.tdiv r_.f_Plot.f_Range 7585792)) % 256) Tryd.underlying2 Tryd.underlying5 rfl rfl) ?_
 refine w_d rfl (d_fld (o' := 1) Tryd.underlying67 rfl sz65 rfl rfl rfl) <| w_d rfl (d_fld (o' := 2) Tryd.underlying65 rfl sz22 rfl rfl rfl) <| wL (.int .u16 r_.f_Plot.f_Azimuth) ty22 rfl rfl .here rfl rfl <| w_d rfl (d_shr (c := r_.f_Plot.f_Azimuth / 256) rfl rfl (by decide) rfl) <| w_d rfl (d_conv (c := (r_.f_Plot.f_Azimuth / 256) % 256) Tryd.underlying22 Tryd.underlying5 rfl rfl) <| w_d rfl (d_fld (o' := 1) Tryd.underlying67 rfl sz65 rfl rfl rfl) <| w_d rfl (d_fld (o' := 2) Tryd.underlying65 rfl sz22 rfl rfl rfl) <| wL (.int .u16 r_.f_Plot.f_Azimuth) ty22 rfl rfl .here rfl rfl <| w_d rfl (d_conv (c := (r_.f_Plot.f_Azimuth) % 256) Tryd.underlying22 Tryd.underlying5 rfl rfl) <| w_a rfl (o_buildSlice' (kd := kU8) (css := [[.int .u8 208], [.int .u8 ((r_.f_Source / 256) % 256)], [.int .u8 ((r_.f_Source) % 256)], [.int .u8 ((r_.f_Plot.f_Time / 65536) % 256)], [.int .u8 ((r_.f_Plot.f_Time / 256) % 256)], [.int .u8 ((r_.f_Plot.f_Time) % 256)], [.int .u8 (((w64 (Int.tdiv r_.f_Plot.f_Range 7585792)) / 256) % 256)], [.int .u8 ((w64 (Int.tdiv r_.f_Plot.f_Range 7585792)) % 256)], [.int .u8 ((r_.f_Plot.f_Azimuth / 256) % 256)], [.int .u8 ((r_.f_Plot.f_Azimuth) % 256)]]) (xs := [208, (r_.f_Source / 256) % 256, (r_.f_Source) % 256, (r_.f_Plot.f_Time / 65536) % 256, (r_.f_Plot.f_Time / 256) % 256, (r_.f_Plot.f_Time) % 256, ((w64 (Int.tdiv r_.f_Plot.f_Range 7585792)) / 256) % 256, (w64 (Int.tdiv r_.f_Plot.f_Range 7585792)) % 256, (r_.f_Plot.f_Azimuth / 256) % 256, (r_.f_Plot.f_Azimuth) % 256]) (parts := [(0, .int .u8 208), (1, .int .u8 ((r_.f_Source / 256) % 256)), (2, .int .u8 ((r_.f_Source) % 256)), (3, .int .u8 ((r_.f_Plot.f_Time / 65536) % 256)), (4, .int .u8 ((r_.f_Plot.f_Time / 256) % 256)), (5, .int .u8 ((r_.f_Plot.f_Time) % 256)), (6, .int .u8 (((w64 (Int.tdiv r_.f_Plot.f_Range 7585792)) / 256) % 256)), (7, .int .u8 ((w64 (Int.tdiv r_.f_Plot.f_Range 7585792)) % 256)), (8, .int .u8 ((r_.f_Plot.f_Azimuth / 256) % 256)), (9, .int .u8 ((r_.f_Plot.f_Azimuth) % 256))]) Tryd.underlying26 ti5 rfl ⟨_, _, rfl, rfl, ⟨_, _, rfl, rfl, ⟨_, _, rfl, rfl, ⟨_, _, rfl, rfl, ⟨_, _, rfl, rfl, ⟨_, _, rfl, rfl, ⟨_, _, rfl, rfl, ⟨_, _, rfl, rfl, ⟨_, _, rfl, rfl, ⟨_, _, rfl, rfl, rfl⟩⟩⟩⟩⟩⟩⟩⟩⟩⟩ ⟨rfl, ⟨rfl, ⟨rfl, ⟨rfl, ⟨rfl, ⟨rfl, ⟨rfl, ⟨rfl, ⟨rfl, ⟨rfl, trivial⟩⟩⟩⟩⟩⟩⟩⟩⟩⟩ rfl (by decide)) ?_
 rintro v4 _ _ ⟨i5, rfl, rfl, h6⟩
 refine wA v4 rfl rfl <| w_done <| w_freeze h6 .here ?_
 intro H7 e8 h9
 obtain rfl := sj he
 refine w_return fn_47 rs_47 (.tmp (v := v4) rfl .nil) <| ⟨⟨[_, _], rfl⟩, hle.trans (e3.trans e8), h9⟩
noncomputable def cat048_Encode.C : Code := (Tryd.f25.body).getD .skip
def cat048_Encode.out (r : (List Int) × (Option Int)) (H : Hp) (v : Value) : Prop := ∃ v0, v = .tuple ⟨[v0, errV 73 r.2]⟩ ∧ Ro kU8 H v0 r.1
theorem cat048_Encode.out_mono (r : (List Int) × (Option Int)) {H H' : Hp} {v : Value} (hle : H.le H') (h : cat048_Encode.out r H v) : cat048_Encode.out r H' v := by
 obtain ⟨v0, rfl, h0⟩ := h; exact ⟨v0, rfl, h0.mono hle⟩
def cat048_Encode.outO (r : (List Int) × (Option Int)) (H : Hp) (it : Item') (v : Value) : Prop := ∃ v0, v = .tuple ⟨[v0, errV 73 r.2]⟩ ∧ Sl kU8 H 5 it v0 r.1
abbrev cat048_Encode.R (H0 : Hp) (L : Items) (r : (List Int) × (Option Int)) : Value → Hp → Items → Prop := fun v H' L' => (∃ p it, L' = p ++ it :: L ∧ cat048_Encode.outO r H' it v) ∧ H0.le H'
structure cat048_Encode.Hs where
 l0 : (List Int) → (Option Int) → (List Int) → (List cat048_Record) → Int → Int → Option ((List Int) × (Option Int))
noncomputable def cat048_Encode.b0 (k : Nat) (h : cat048_Encode.Hs)  (t2 : List Int) (t3 : Option Int) (out : List Int) (t17 : List cat048_Record) (t18 : Int) (t19 : Int) : Option ((List Int) × (Option Int)) := if t19 < t18 then (if (0 : Int) ≤ t19 ∧ t19 < (t17.length : Int) then ((cat048_Record_may.f k (rd t17 t19)).bind fun y13 => if (!y13) = true then (some ([], some 1)) else ((cat048_Record_bytes.f k (rd t17 t19)).bind fun y18 => if out.length + y18.length ≤ 140737488355232 then (h.l0 t2 t3 (out ++ y18) t17 t18 (w64 (t19 + 1))) else none)) else none) else (if (0 : Int) ≤ 1 ∧ 1 < (out.length : Int) then (if (0 : Int) ≤ 2 ∧ 2 < ((out.set (1 : Int).toNat (((out.length : Int) / 256) % 256)).length : Int) then (some ((out.set (1 : Int).toNat (((out.length : Int) / 256) % 256)).set (2 : Int).toNat (((out.length : Int)) % 256), none)) else none) else none)
noncomputable def cat048_Encode.hs : Nat → cat048_Encode.Hs
 | 0 => ⟨fun _ _ _ _ _ _ => none⟩
 | k + 1 => ⟨fun x0 x1 x2 x3 x4 x5 => cat048_Encode.b0 k (cat048_Encode.hs k) x0 x1 x2 x3 x4 x5⟩
noncomputable def cat048_Encode.f (k : Nat) (l : List cat048_Record) : Option ((List Int) × (Option Int)) := (fun h : cat048_Encode.Hs => if ((decide ((l.length : Int) < 1)) || (decide (64 < (l.length : Int)))) = true then (some ([], some 1)) else (h.l0 [] none [48, 0, 0] l (l.length : Int) 0)) (cat048_Encode.hs k)
structure cat048_Encode.LE (h h' : cat048_Encode.Hs) : Prop where
 l0 : ∀ y0 y1 y2 y3 y4 y5, LeO (h.l0 y0 y1 y2 y3 y4 y5) (h'.l0 y0 y1 y2 y3 y4 y5)
theorem cat048_Encode.b0_mono {k : Nat} {h h' : cat048_Encode.Hs} (hl : cat048_Encode.LE h h') : ∀ y0 y1 y2 y3 y4 y5, LeO (cat048_Encode.b0 k h y0 y1 y2 y3 y4 y5) (cat048_Encode.b0 (k + 1) h' y0 y1 y2 y3 y4 y5) := fun _ _ _ _ _ _ => (LeO.ite (LeO.ite (LeO.bind (cat048_Record_may.mono k _) fun _ => LeO.ite (LeO.refl _) (LeO.bind (cat048_Record_bytes.mono k _) fun _ => LeO.ite (hl.l0 _ _ _ _ _ _) (LeO.refl _))) (LeO.refl _)) (LeO.ite (LeO.ite (LeO.refl _) (LeO.refl _)) (LeO.refl _)))
theorem cat048_Encode.hs_mono : ∀ k, cat048_Encode.LE (cat048_Encode.hs k) (cat048_Encode.hs (k + 1))
 | 0 => ⟨fun _ _ _ _ _ _ => LeO.none _⟩
 | k + 1 => ⟨cat048_Encode.b0_mono (k := k) (cat048_Encode.hs_mono k)⟩
theorem cat048_Encode.mono : ∀ k y0, LeO (cat048_Encode.f k y0) (cat048_Encode.f (k + 1) y0) := fun k _ => have hl := cat048_Encode.hs_mono k; by unfold cat048_Encode.f; exact (LeO.ite (LeO.refl _) (hl.l0 _ _ _ _ _ _))
noncomputable def cat048_Encode.Kl0 : List Item := .code (lopB (blkB (seqR (seqL (seqR (seqR (seqR cat048_Encode.C))))))) :: .inLoop (lopB (blkB (seqR (seqL (seqR (seqR (seqR cat048_Encode.C))))))) :: .inBlock 0 :: .code (seqR (seqR (seqR (seqR cat048_Encode.C)))) :: []
structure cat048_Encode.OK (h : cat048_Encode.Hs) : Prop where
 l0 : ∀ {H0 H : Hp} {L : Items} {r : (List Int) × (Option Int)} {jk_ : Nat → Value} {t2 : List Int} {t3 : Option Int} {out : List Int} {t17 : List cat048_Record} {t18 : Int} {t19 : Int} {v_t2 : Value} {v_out : Value} {v_t17 : Value} {i_out : Item'} (_ : H0.le H) (_he : h.l0 t2 t3 out t17 t18 t19 = some r) (_h_t2 : Ro kU8 H v_t2 t2) (_h_out : Sl kU8 H 5 i_out v_out out) (_h_t17 : Src k_cat048_Record H L v_t17 t17), Wp Tryd.prog 25 44 cat048_Encode.Kl0 (upd (upd (upd (upd (upd (upd jk_ 2 (v_t2)) 3 (errV 73 t3)) 4 (v_out)) 17 (v_t17)) 18 (.int .i64 t18)) 19 (.int .i64 t19)) H (i_out :: L) (cat048_Encode.R H0 L r)
theorem cat048_Encode.b0_ok {k : Nat} {h : cat048_Encode.Hs} (hh : cat048_Encode.OK h) {H0 H : Hp} {L : Items} {r : (List Int) × (Option Int)} {jk_ : Nat → Value} {t2 : List Int} {t3 : Option Int} {out : List Int} {t17 : List cat048_Record} {t18 : Int} {t19 : Int} {v_t2 : Value} {v_out : Value} {v_t17 : Value} {i_out : Item'} (hle : H0.le H) (he : cat048_Encode.b0 k h t2 t3 out t17 t18 t19 = some r) (h_t2 : Ro kU8 H v_t2 t2) (h_out : Sl kU8 H 5 i_out v_out out) (h_t17 : Src k_cat048_Record H L v_t17 t17) : Wp Tryd.prog 25 44 cat048_Encode.Kl0 (upd (upd (upd (upd (upd (upd jk_ 2 (v_t2)) 3 (errV 73 t3)) 4 (v_out)) 17 (v_t17)) 18 (.int .i64 t18)) 19 (.int .i64 t19)) H (i_out :: L) (cat048_Encode.R H0 L r) := by
 unfold cat048_Encode.b0 at he
 unfold cat048_Encode.Kl0
 refine wR rfl <| w_d rfl (d_lss rfl rfl) <| wE ?_
 rcases its he with ⟨c8, he⟩ | ⟨c8, he⟩
 ·
  refine w_then rfl (dt c8) <| w_skip <| w_seq <| w_block <| wR rfl ?_
  obtain ⟨c9, he⟩ := rq he
  refine w_d rfl (d_index (sz := 5) Tryd.underlying56 sz67 rfl h_t17.th rfl c9) ?_
  obtain ⟨_, l10, r11⟩ := el_of (kd := k_cat048_Record) h_t17.th c9
  obtain ⟨rfl⟩ := k_cat048_Record_out r11
  refine w_d rfl (d_load (v := .agg ⟨[.int .u16 ((rd t17 t19).f_Source), .int .i64 (((rd t17 t19).f_Plot).f_Range), .int .u16 (((rd t17 t19).f_Plot).f_Azimuth), .int .i64 (((rd t17 t19).f_Plot).f_Time), .bool ((rd t17 t19).f_Is)]⟩) (cs := [.int .u16 ((rd t17 t19).f_Source), .int .i64 (((rd t17 t19).f_Plot).f_Range), .int .u16 (((rd t17 t19).f_Plot).f_Azimuth), .int .i64 (((rd t17 t19).f_Plot).f_Time), .bool ((rd t17 t19).f_Is)]) ty67 rfl rfl (by decide) l10 rfl) <| w_a rfl (o_alloc zr67 rfl) ?_
  rintro _ _ _ ⟨b12, rfl, rfl, rfl⟩
  refine w_a0 rfl (o_store (v := .agg ⟨[.int .u16 ((rd t17 t19).f_Source), .int .i64 (((rd t17 t19).f_Plot).f_Range), .int .u16 (((rd t17 t19).f_Plot).f_Azimuth), .int .i64 (((rd t17 t19).f_Plot).f_Time), .bool ((rd t17 t19).f_Is)]⟩) sz67 rfl rfl rfl rfl (oc rfl (oc rfl (oc rfl (oc rfl (oc rfl oz))))) .here (.here u4)) ?_
  rintro _ _ _ ⟨rfl, rfl, rfl⟩
  refine wE <| wR rfl <| w_d rfl (d_loado (v := .agg ⟨[.int .u16 ((rd t17 t19).f_Source), .int .i64 (((rd t17 t19).f_Plot).f_Range), .int .u16 (((rd t17 t19).f_Plot).f_Azimuth), .int .i64 (((rd t17 t19).f_Plot).f_Time), .bool ((rd t17 t19).f_Is)]⟩) ty67 rfl .here rfl rfl rfl rfl) ?_
  obtain ⟨y13, hy14, he⟩ := bs he
  refine w_d rfl (call_d (o_call co46 (vs := [.agg ⟨[.int .u16 ((rd t17 t19).f_Source), .int .i64 (((rd t17 t19).f_Plot).f_Range), .int .u16 (((rd t17 t19).f_Plot).f_Azimuth), .int .i64 (((rd t17 t19).f_Plot).f_Time), .bool ((rd t17 t19).f_Is)]⟩]) rfl (cat048_Record_may.calls k (r_ := (rd t17 t19)) hy14))) <| w_d rfl (d_not (b := y13) rfl) <| w_done ?_
  rcases its he with ⟨c17, he⟩ | ⟨c17, he⟩
  ·
   refine w_then rfl c17 <| wR rfl <| w_d rfl (d_iface (v := .int .i64 1) Tryd.underlying73 rfl rfl) <| wA (.slice none 0 0) rfl rfl <| wA (errV 73 (some 1)) rfl rfl <| w_done <| w_none ?_
   obtain rfl := sj he
   refine w_del (.there (.there .here)) <| w_del (.there .here) <| w_return fn_25 rs_25 (.tmp (v := .slice none 0 0) rfl (.tmp (v := errV 73 (some 1)) rfl .nil)) <| ⟨⟨[], _, rfl, ⟨.slice none 0 0, rfl, (sl_nil _ _ _)⟩⟩, hle⟩
  ·
   refine w_else rfl (Bool.eq_false_iff.2 c17) <| w_skip <| w_region rfl <| wM v_out rfl rfl <| w_d rfl (d_loado (v := .agg ⟨[.int .u16 ((rd t17 t19).f_Source), .int .i64 (((rd t17 t19).f_Plot).f_Range), .int .u16 (((rd t17 t19).f_Plot).f_Azimuth), .int .i64 (((rd t17 t19).f_Plot).f_Time), .bool ((rd t17 t19).f_Is)]⟩) ty67 rfl .here rfl rfl rfl rfl) ?_
   obtain ⟨y18, hy19, he⟩ := bs he
   refine w_a rfl (o_call co47 (vs := [.agg ⟨[.int .u16 ((rd t17 t19).f_Source), .int .i64 (((rd t17 t19).f_Plot).f_Range), .int .u16 (((rd t17 t19).f_Plot).f_Azimuth), .int .i64 (((rd t17 t19).f_Plot).f_Time), .bool ((rd t17 t19).f_Is)]⟩]) rfl (cat048_Record_bytes.calls k (r_ := (rd t17 t19)) hy19)) ?_
   rintro v22 H20 _ ⟨rfl, e21, h23⟩
   obtain ⟨c24, he⟩ := rq he
   refine w_a rfl (o_append' (kd := kU8) (F := fun z_ => some (b12, .cells ⟨[.int .u16 ((rd t17 t19).f_Source), .int .i64 (((rd t17 t19).f_Plot).f_Range), .int .u16 (((rd t17 t19).f_Plot).f_Azimuth), .int .i64 (((rd t17 t19).f_Plot).f_Time), .bool ((rd t17 t19).f_Is)]⟩ 67 (0, 0)) :: z_ :: L) Tryd.underlying26 Tryd.underlying26 ti5 rfl (by first | omega | (simp only [List.nil_append, List.length_cons, List.length_nil]; omega)) rfl rfl (h_out.mono e21) h23.src (fun _ => (.there .here))) ?_
   rintro v25 _ _ ⟨i26, rfl, rfl, h27⟩
   refine wA v25 rfl rfl <| w_done <| w_inBlock <| w_region rfl <| w_d rfl (d_add (c := w64 (t19 + 1)) rfl rfl rfl) <| wM (.int .i64 (w64 (t19 + 1))) rfl rfl <| w_done <| w_inLoop <| w_del .here <| w_sl 2 (v_t2) rfl <| w_sl 3 (errV 73 t3) rfl <| w_sl 4 (v25) rfl ?_
   refine w_sl 17 (v_t17) rfl <| w_sl 18 (.int .i64 t18) rfl <| w_sl 19 (.int .i64 (w64 (t19 + 1))) rfl <| hh.l0 (hle.trans e21) he (h_t2.mono e21) h27 (h_t17.mono e21)
 ·
  refine w_else rfl (df c8) <| w_exit rfl <| wR rfl <| wM v_out rfl rfl <| wM v_out rfl rfl <| wM v_out rfl rfl <| w_d rfl (d_lenS Tryd.underlying26 rfl h_out.shp) <| w_d rfl (d_shr (c := (out.length : Int) / 256) rfl rfl (by decide) rfl) <| w_d rfl (d_conv (c := ((out.length : Int) / 256) % 256) Tryd.underlying3 Tryd.underlying5 rfl rfl) <| wM v_out rfl rfl <| w_d rfl (d_lenS Tryd.underlying26 rfl h_out.shp) ?_
  refine w_d rfl (d_conv (c := ((out.length : Int)) % 256) Tryd.underlying3 Tryd.underlying5 rfl rfl) ?_
  obtain ⟨c28, he⟩ := rq he
  refine w_d rfl (d_indexS (sz := 1) Tryd.underlying26 sz5 rfl h_out.shp rfl c28) <| w_a0 rfl (o_storeEl (kd := kU8) (v := .int .u8 (((out.length : Int) / 256) % 256)) (F := fun z_ => z_ :: L) sz5 rfl rfl rfl rfl h_out c28 (fun _ => .here)) ?_
  rintro _ _ _ ⟨i29, rfl, rfl, rfl, h30⟩
  obtain ⟨c31, he⟩ := rq he
  refine w_d rfl (d_indexS (sz := 1) Tryd.underlying26 sz5 rfl h30.shp rfl c31) <| w_a0 rfl (o_storeEl (kd := kU8) (v := .int .u8 (((out.length : Int)) % 256)) (F := fun z_ => z_ :: L) sz5 rfl rfl rfl rfl h30 c31 (fun _ => .here)) ?_
  rintro _ _ _ ⟨i32, rfl, rfl, rfl, h33⟩
  refine wQ rfl <| wM v_out rfl rfl <| wA v_out rfl rfl <| wA (errV 73 none) rfl rfl <| w_done ?_
  obtain rfl := sj he
  refine w_return fn_25 rs_25 (.tmp (v := v_out) rfl (.tmp (v := errV 73 none) rfl .nil)) <| ⟨⟨[], _, rfl, ⟨v_out, rfl, h33⟩⟩, hle⟩
theorem cat048_Encode.ok : ∀ k, cat048_Encode.OK (cat048_Encode.hs k)
 | 0 => ⟨(by intros; exact nomatch (show none = some _ from by assumption))⟩
 | k + 1 => ⟨cat048_Encode.b0_ok (k := k) (cat048_Encode.ok k)⟩
theorem cat048_Encode.calls (k : Nat) {H : Hp} {L : Items} {l : List cat048_Record} {v0_l : Value} {r : (List Int) × (Option Int)} (he : cat048_Encode.f k l = some r) (h0_l : Src k_cat048_Record H L v0_l l) : Ct Tryd.prog 25 ⟨[v0_l]⟩ H L (fun v H' L' => ∃ it, L' = it :: L ∧ H.le H' ∧ cat048_Encode.outO r H' it v) := by
 refine ct_ownQ (Q := cat048_Encode.outO r) ?_
 have hle : H.le H := .refl _
 have hh := cat048_Encode.ok k
 unfold cat048_Encode.f at he
 refine ct_enter (args := [v0_l]) fn_25 rfl nt_25 rfl <| wR rfl <| wA (.slice none 0 0) rfl rfl <| wA (errV 73 none) rfl rfl <| wE <| wR rfl <| wM v0_l rfl rfl <| w_d rfl (d_len Tryd.underlying56 rfl h0_l) <| w_d rfl (d_lss rfl rfl) ?_
 refine wM (.bool (decide ((l.length : Int) < 1))) rfl rfl <| w_g (g := !(decide ((l.length : Int) < 1))) rfl rfl rfl wn_f (fun g1 => d_move (v := v0_l) rfl) <| w_g (g := !(decide ((l.length : Int) < 1))) rfl rfl rfl wn_f (fun g2 => d_len Tryd.underlying56 (cvt g2) h0_l) <| w_g (g := !(decide ((l.length : Int) < 1))) rfl rfl rfl wn_f (fun g3 => d_gtr (cvt g3) rfl) <| w_d rfl (d_or' (b := (decide ((l.length : Int) < 1))) (p := (decide (64 < (l.length : Int)))) rfl rfl rfl) <| w_done ?_
 rcases its he with ⟨c4, he⟩ | ⟨c4, he⟩
 ·
  refine w_then rfl c4 <| wR rfl <| w_d rfl (d_iface (v := .int .i64 1) Tryd.underlying73 rfl rfl) <| wA (.slice none 0 0) rfl rfl <| wA (errV 73 (some 1)) rfl rfl <| w_done <| w_none ?_
  obtain rfl := sj he
  refine w_return fn_25 rs_25 (.tmp (v := .slice none 0 0) rfl (.tmp (v := errV 73 (some 1)) rfl .nil)) <| ⟨⟨[], _, rfl, ⟨.slice none 0 0, rfl, (sl_nil _ _ _)⟩⟩, hle⟩
 ·
  refine w_else rfl (Bool.eq_false_iff.2 c4) <| w_skip <| wR rfl <| w_a rfl (o_buildSlice' (kd := kU8) (css := [[.int .u8 48], [.int .u8 0], [.int .u8 0]]) (xs := [48, 0, 0]) (parts := [(0, .int .u8 48), (1, .int .u8 0), (2, .int .u8 0)]) Tryd.underlying26 ti5 rfl ⟨_, _, rfl, rfl, ⟨_, _, rfl, rfl, ⟨_, _, rfl, rfl, rfl⟩⟩⟩ ⟨rfl, ⟨rfl, ⟨rfl, trivial⟩⟩⟩ rfl (by decide)) ?_
  rintro v5 _ _ ⟨i6, rfl, rfl, h7⟩
  refine wA v5 rfl rfl <| wE <| wR rfl <| wM v0_l rfl rfl <| w_d rfl (d_len Tryd.underlying56 rfl h0_l.th) <| wM (.int .i64 0) rfl rfl <| w_done <| w_block <| w_loop <| w_sl 2 (.slice none 0 0) rfl ?_
  refine w_sl 3 (errV 73 none) rfl <| w_sl 4 (v5) rfl <| w_sl 17 (v0_l) rfl <| w_sl 18 (.int .i64 (l.length : Int)) rfl <| w_sl 19 (.int .i64 0) rfl <| hh.l0 hle he (ro_nil _ _) h7 h0_l
theorem cat048_Encode.callsR (k : Nat) {H : Hp} {L : Items} {l : List cat048_Record} {v0_l : Value} {r : (List Int) × (Option Int)} (he : cat048_Encode.f k l = some r) (h0_l : Src k_cat048_Record H L v0_l l) : Ct Tryd.prog 25 ⟨[v0_l]⟩ H L (cR H L (cat048_Encode.out r)) := ct_roQ (cat048_Encode.calls k he h0_l) (fun H' it v h => by obtain ⟨v0, rfl, h⟩ := h; exact ⟨_, h, fun H'' le ro => ⟨_, rfl, ro⟩⟩)
noncomputable def cat048_number.C : Code := (Tryd.f65.body).getD .skip
def cat048_number.out (r : Int) (H : Hp) (v : Value) : Prop := v = .int .i64 r
abbrev cat048_number.R (H0 : Hp) (L : Items) (r : Int) := fR H0 L (cat048_number.out r)
structure cat048_number.Hs where
 l0 : Int → (List Int) → Int → Int → Option Int
noncomputable def cat048_number.b0 (k : Nat) (h : cat048_number.Hs)  (n : Int) (t6 : List Int) (t7 : Int) (t8 : Int) : Option Int := if t8 < t7 then (if (0 : Int) ≤ t8 ∧ t8 < (t6.length : Int) then (h.l0 (ior .i64 (w64 (n * 256)) (w64 (rd t6 t8))) t6 t7 (w64 (t8 + 1))) else none) else (some (n))
noncomputable def cat048_number.hs : Nat → cat048_number.Hs
 | 0 => ⟨fun _ _ _ _ => none⟩
 | k + 1 => ⟨fun x0 x1 x2 x3 => cat048_number.b0 k (cat048_number.hs k) x0 x1 x2 x3⟩
noncomputable def cat048_number.f (k : Nat) (b : List Int) : Option Int := (fun h : cat048_number.Hs => h.l0 0 b (b.length : Int) 0) (cat048_number.hs k)
structure cat048_number.LE (h h' : cat048_number.Hs) : Prop where
 l0 : ∀ y0 y1 y2 y3, LeO (h.l0 y0 y1 y2 y3) (h'.l0 y0 y1 y2 y3)
theorem cat048_number.b0_mono {k : Nat} {h h' : cat048_number.Hs} (hl : cat048_number.LE h h') : ∀ y0 y1 y2 y3, LeO (cat048_number.b0 k h y0 y1 y2 y3) (cat048_number.b0 (k + 1) h' y0 y1 y2 y3) := fun _ _ _ _ => (LeO.ite (LeO.ite (hl.l0 _ _ _ _) (LeO.refl _)) (LeO.refl _))
theorem cat048_number.hs_mono : ∀ k, cat048_number.LE (cat048_number.hs k) (cat048_number.hs (k + 1))
 | 0 => ⟨fun _ _ _ _ => LeO.none _⟩
 | k + 1 => ⟨cat048_number.b0_mono (k := k) (cat048_number.hs_mono k)⟩
theorem cat048_number.mono : ∀ k y0, LeO (cat048_number.f k y0) (cat048_number.f (k + 1) y0) := fun k _ => have hl := cat048_number.hs_mono k; by unfold cat048_number.f; exact (hl.l0 _ _ _ _)
noncomputable def cat048_number.Kl0 : List Item := .code (lopB (blkB (seqR (seqL (seqR (seqR cat048_number.C)))))) :: .inLoop (lopB (blkB (seqR (seqL (seqR (seqR cat048_number.C)))))) :: .inBlock 0 :: .code (seqR (seqR (seqR cat048_number.C))) :: []
structure cat048_number.OK (h : cat048_number.Hs) : Prop where
 l0 : ∀ {H0 H : Hp} {L : Items} {r : Int} {jk_ : Nat → Value} {n : Int} {t6 : List Int} {t7 : Int} {t8 : Int} {v_t6 : Value} (_ : H0.le H) (_he : h.l0 n t6 t7 t8 = some r) (_h_t6 : Src kU8 H L v_t6 t6), Wp Tryd.prog 65 19 cat048_number.Kl0 (upd (upd (upd (upd (upd jk_ 2 (.int .i64 0)) 3 (.int .i64 n)) 6 (v_t6)) 7 (.int .i64 t7)) 8 (.int .i64 t8)) H (L) (cat048_number.R H0 L r)
theorem cat048_number.b0_ok {k : Nat} {h : cat048_number.Hs} (hh : cat048_number.OK h) {H0 H : Hp} {L : Items} {r : Int} {jk_ : Nat → Value} {n : Int} {t6 : List Int} {t7 : Int} {t8 : Int} {v_t6 : Value} (hle : H0.le H) (he : cat048_number.b0 k h n t6 t7 t8 = some r) (h_t6 : Src kU8 H L v_t6 t6) : Wp Tryd.prog 65 19 cat048_number.Kl0 (upd (upd (upd (upd (upd jk_ 2 (.int .i64 0)) 3 (.int .i64 n)) 6 (v_t6)) 7 (.int .i64 t7)) 8 (.int .i64 t8)) H (L) (cat048_number.R H0 L r) := by
 unfold cat048_number.b0 at he
 unfold cat048_number.Kl0
 refine wR rfl <| w_d rfl (d_lss rfl rfl) <| wE ?_
 rcases its he with ⟨c1, he⟩ | ⟨c1, he⟩
 ·
  refine w_then rfl (dt c1) <| w_skip <| w_seq <| w_block <| wR rfl ?_
  obtain ⟨c2, he⟩ := rq he
  refine w_d rfl (d_index (sz := 1) Tryd.underlying26 sz5 rfl h_t6 rfl c2) <| w_d rfl (d_ldint ty5 rfl h_t6 c2) <| wA (.int .u8 (rd t6 t8)) rfl rfl <| w_done <| w_region rfl <| wM (.int .i64 n) rfl rfl <| w_d rfl (d_shl (c := w64 (n * 256)) rfl rfl (by decide) rfl) <| wM (.int .u8 (rd t6 t8)) rfl rfl <| w_d rfl (d_conv (c := w64 (rd t6 t8)) Tryd.underlying5 Tryd.underlying2 rfl rfl) <| w_d rfl (d_bor rfl rfl) <| wA (.int .i64 (ior .i64 (w64 (n * 256)) (w64 (rd t6 t8)))) rfl rfl <| w_done ?_
  refine w_inBlock <| w_region rfl <| w_d rfl (d_add (c := w64 (t8 + 1)) rfl rfl rfl) <| wM (.int .i64 (w64 (t8 + 1))) rfl rfl <| w_done <| w_inLoop <| w_sl 2 (.int .i64 0) rfl <| w_sl 3 (.int .i64 (ior .i64 (w64 (n * 256)) (w64 (rd t6 t8)))) rfl <| w_sl 6 (v_t6) rfl <| w_sl 7 (.int .i64 t7) rfl <| w_sl 8 (.int .i64 (w64 (t8 + 1))) rfl <| hh.l0 hle he h_t6
 ·
  refine w_else rfl (df c1) <| w_exit rfl <| wR rfl <| wM (.int .i64 n) rfl rfl <| wA (.int .i64 n) rfl rfl <| w_done ?_
  obtain rfl := sj he
  refine w_return fn_65 rs_65 (.tmp (v := .int .i64 n) rfl .nil) <| ⟨⟨[], rfl⟩, hle, rfl⟩
theorem cat048_number.ok : ∀ k, cat048_number.OK (cat048_number.hs k)
 | 0 => ⟨(by intros; exact nomatch (show none = some _ from by assumption))⟩
 | k + 1 => ⟨cat048_number.b0_ok (k := k) (cat048_number.ok k)⟩
theorem cat048_number.calls (k : Nat) {H : Hp} {L : Items} {b : List Int} {v0_b : Value} {r : Int} (he : cat048_number.f k b = some r) (h0_b : Src kU8 H L v0_b b) : Ct Tryd.prog 65 ⟨[v0_b]⟩ H L (fun v H' L' => L = L' ∧ H = H' ∧ v = .int .i64 r) := by
 refine ct_outs (O := cat048_number.out r) (fun _ _ h => h) ?_
 have hle : H.le H := .refl _
 have hh := cat048_number.ok k
 unfold cat048_number.f at he
 refine ct_enter (args := [v0_b]) fn_65 rfl nt_65 rfl <| wR rfl <| wA (.int .i64 0) rfl rfl <| wQ rfl <| wA (.int .i64 0) rfl rfl <| wE <| wR rfl ?_
 refine wM v0_b rfl rfl <| w_d rfl (d_len Tryd.underlying26 rfl h0_b) <| wM (.int .i64 0) rfl rfl <| w_done <| w_block <| w_loop <| w_sl 2 (.int .i64 0) rfl <| w_sl 3 (.int .i64 0) rfl <| w_sl 6 (v0_b) rfl <| w_sl 7 (.int .i64 (b.length : Int)) rfl <| w_sl 8 (.int .i64 0) rfl <| hh.l0 hle he h0_b
noncomputable def cat048_framed.C : Code := (Tryd.f49.body).getD .skip
def cat048_framed.out (r : (Option Int)) (H : Hp) (v : Value) : Prop := v = errV 73 r
noncomputable def cat048_framed.f (k : Nat) (b : List Int) : Option (Option Int) := if 16384 < (b.length : Int) then (some (some 2)) else (if (b.length : Int) < 3 then (some (some 4)) else (if (0 : Int) ≤ 0 ∧ 0 < (b.length : Int) then (if (!(!decide ((rd b 0) = 48))) = true → (0 : Int) ≤ 1 ∧ (1 : Int) ≤ 3 ∧ 3 ≤ (b.length : Int) then ((gd (!(!decide ((rd b 0) = 48))) (cat048_number.f k (cut b 1 3)) (0)).bind fun y8 => if (((!decide ((rd b 0) = 48)) || (!decide (y8 = (b.length : Int)))) || (decide ((b.length : Int) = 3))) = true then (some (some 3)) else (some (none))) else none) else none))
theorem cat048_framed.mono : ∀ k y0, LeO (cat048_framed.f k y0) (cat048_framed.f (k + 1) y0) := fun k _ => by unfold cat048_framed.f; exact (LeO.ite (LeO.refl _) (LeO.ite (LeO.refl _) (LeO.ite (LeO.ite (LeO.bind (LeO.gd (cat048_number.mono k _)) fun _ => LeO.ite (LeO.refl _) (LeO.refl _)) (LeO.refl _)) (LeO.refl _))))
theorem cat048_framed.calls (k : Nat) {H : Hp} {L : Items} {b : List Int} {v0_b : Value} {r : (Option Int)} (he : cat048_framed.f k b = some r) (h0_b : Src kU8 H L v0_b b) : Ct Tryd.prog 49 ⟨[v0_b]⟩ H L (fun v H' L' => L = L' ∧ H = H' ∧ v = errV 73 r) := by
 refine ct_outs (O := cat048_framed.out r) (fun _ _ h => h) ?_
 have hle : H.le H := .refl _
 unfold cat048_framed.f at he
 refine ct_enter (args := [v0_b]) fn_49 rfl nt_49 rfl <| wR rfl <| wA (errV 73 none) rfl rfl <| wE <| w_block <| wR rfl <| wM v0_b rfl rfl <| w_d rfl (d_len Tryd.underlying26 rfl h0_b) <| w_d rfl (d_gtr rfl rfl) ?_
 refine wA (.bool (decide (16384 < (b.length : Int)))) rfl rfl <| w_done ?_
 rcases its he with ⟨c1, he⟩ | ⟨c1, he⟩
 ·
  refine w_then rfl (dt c1) <| wR rfl <| w_d rfl (d_iface (v := .int .i64 2) Tryd.underlying73 rfl rfl) <| wA (errV 73 (some 2)) rfl rfl <| w_done ?_
  obtain rfl := sj he
  refine w_return fn_49 rs_49 (.tmp (v := errV 73 (some 2)) rfl .nil) <| ⟨⟨[], rfl⟩, hle, rfl⟩
 ·
  refine w_else rfl (df c1) <| wR rfl <| wM v0_b rfl rfl <| w_d rfl (d_len Tryd.underlying26 rfl h0_b) <| w_d rfl (d_lss rfl rfl) <| wA (.bool (decide ((b.length : Int) < 3))) rfl rfl <| w_done ?_
  rcases its he with ⟨c2, he⟩ | ⟨c2, he⟩
  ·
   refine w_then rfl (dt c2) <| wR rfl <| w_d rfl (d_iface (v := .int .i64 4) Tryd.underlying73 rfl rfl) <| wA (errV 73 (some 4)) rfl rfl <| w_done ?_
   obtain rfl := sj he
   refine w_return fn_49 rs_49 (.tmp (v := errV 73 (some 4)) rfl .nil) <| ⟨⟨[], rfl⟩, hle, rfl⟩
  ·
   refine w_else rfl (df c2) <| wR rfl <| wM v0_b rfl rfl ?_
   obtain ⟨c3, he⟩ := rq he
   refine w_d rfl (d_index (sz := 1) Tryd.underlying26 sz5 rfl h0_b rfl c3) <| w_d rfl (d_ldint ty5 rfl h0_b c3) <| w_d rfl (d_neq rfl rfl) <| wM (.bool (!decide ((rd b 0) = 48))) rfl rfl <| w_g (g := !(!decide ((rd b 0) = 48))) rfl rfl rfl wn_f (fun g4 => d_move (v := v0_b) rfl) ?_
   obtain ⟨c6, he⟩ := rq he
   refine w_g (g := !(!decide ((rd b 0) = 48))) rfl rfl rfl wn_f (fun g5 => d_cutv (kd := kU8) Tryd.underlying26 sz5 (cvt g5) h0_b (.inr ⟨_, _, rfl, rfl⟩) (.inr ⟨_, _, rfl, rfl⟩) (c6 g5)) ?_
   obtain ⟨y8, hy9, he⟩ := bs he
   refine w_g (g := !(!decide ((rd b 0) = 48))) rfl rfl rfl wn_f (fun g7 => call_d (o_call co65 (vs := [cutv kU8.sz v0_b 1 3]) (acons (cvt g7) (anil)) (cat048_number.calls k (gd_t g7 hy9) ((fun g_ => src_cutv (kd := kU8) h0_b (c6 g_)) g7)))) <| w_g (g := !(!decide ((rd b 0) = 48))) rfl rfl rfl wn_f (fun g12 => d_move (v := v0_b) rfl) <| w_g (g := !(!decide ((rd b 0) = 48))) rfl rfl rfl wn_f (fun g13 => d_len Tryd.underlying26 (cvt g13) h0_b) <| w_g (g := !(!decide ((rd b 0) = 48))) rfl rfl rfl wn_f (fun g14 => d_neq (cvt g14) (cvt g14)) <| w_d rfl (d_or' (b := (!decide ((rd b 0) = 48))) (p := (!decide (y8 = (b.length : Int)))) rfl rfl rfl) <| wM (.bool ((!decide ((rd b 0) = 48)) || (!decide (y8 = (b.length : Int))))) rfl rfl <| w_g (g := !((!decide ((rd b 0) = 48)) || (!decide (y8 = (b.length : Int))))) rfl rfl rfl wn_f (fun g15 => d_move (v := v0_b) rfl) <| w_g (g := !((!decide ((rd b 0) = 48)) || (!decide (y8 = (b.length : Int))))) rfl rfl rfl wn_f (fun g16 => d_len Tryd.underlying26 (cvt g16) h0_b) <| w_g (g := !((!decide ((rd b 0) = 48)) || (!decide (y8 = (b.length : Int))))) rfl rfl rfl wn_f (fun g17 => d_eql (cvt g17) rfl) <| w_d rfl (d_or' (b := ((!decide ((rd b 0) = 48)) || (!decide (y8 = (b.length : Int))))) (p := (decide ((b.length : Int) = 3))) rfl rfl rfl) <| wA (.bool (((!decide ((rd b 0) = 48)) || (!decide (y8 = (b.length : Int)))) || (decide ((b.length : Int) = 3)))) rfl rfl <| w_done ?_
   rcases its he with ⟨c18, he⟩ | ⟨c18, he⟩
   ·
    refine w_then rfl c18 <| wR rfl <| w_d rfl (d_iface (v := .int .i64 3) Tryd.underlying73 rfl rfl) <| wA (errV 73 (some 3)) rfl rfl <| w_done ?_
    obtain rfl := sj he
    refine w_return fn_49 rs_49 (.tmp (v := errV 73 (some 3)) rfl .nil) <| ⟨⟨[], rfl⟩, hle, rfl⟩
   ·
    refine w_else rfl (Bool.eq_false_iff.2 c18) <| w_skip <| w_inBlock <| wR rfl <| wA (errV 73 none) rfl rfl <| w_done ?_
    obtain rfl := sj he
    refine w_return fn_49 rs_49 (.tmp (v := errV 73 none) rfl .nil) <| ⟨⟨[], rfl⟩, hle, rfl⟩
noncomputable def fspec_items.C : Code := (Tryd.f43.body).getD .skip
abbrev fspec_items.out (r : (List Int)) (H : Hp) (v : Value) : Prop := Ro kI64 H v r
abbrev fspec_items.R (H0 : Hp) (L : Items) (r : (List Int)) := fR H0 L (fspec_items.out r)
structure fspec_items.Hs where
 l0 : Int → Int → (List Int) → Int → Option (List Int)
noncomputable def fspec_items.b0 (k : Nat) (h : fspec_items.Hs)  (c_ : Int) (n : Int) (out : List Int) (t7 : Int) : Option (List Int) := if t7 < 7 then (if 0 ≤ t7 then (if (iand .u8 c_ (128 / 2 ^ shn .u8 t7)) = 0 then (h.l0 c_ n out (w64 (t7 + 1))) else (if out.length + 1 ≤ 17592186044320 then (h.l0 c_ n (out ++ [w64 ((w64 ((w64 (n * 7)) + t7)) + 1)]) (w64 (t7 + 1))) else none)) else none) else (some (out))
noncomputable def fspec_items.hs : Nat → fspec_items.Hs
 | 0 => ⟨fun _ _ _ _ => none⟩
 | k + 1 => ⟨fun x0 x1 x2 x3 => fspec_items.b0 k (fspec_items.hs k) x0 x1 x2 x3⟩
noncomputable def fspec_items.f (k : Nat) (c_ : Int) (n : Int) : Option (List Int) := (fun h : fspec_items.Hs => h.l0 c_ n [] 0) (fspec_items.hs k)
structure fspec_items.LE (h h' : fspec_items.Hs) : Prop where
 l0 : ∀ y0 y1 y2 y3, LeO (h.l0 y0 y1 y2 y3) (h'.l0 y0 y1 y2 y3)
theorem fspec_items.b0_mono {k : Nat} {h h' : fspec_items.Hs} (hl : fspec_items.LE h h') : ∀ y0 y1 y2 y3, LeO (fspec_items.b0 k h y0 y1 y2 y3) (fspec_items.b0 (k + 1) h' y0 y1 y2 y3) := fun _ _ _ _ => (LeO.ite (LeO.ite (LeO.ite (hl.l0 _ _ _ _) (LeO.ite (hl.l0 _ _ _ _) (LeO.refl _))) (LeO.refl _)) (LeO.refl _))
theorem fspec_items.hs_mono : ∀ k, fspec_items.LE (fspec_items.hs k) (fspec_items.hs (k + 1))
 | 0 => ⟨fun _ _ _ _ => LeO.none _⟩
 | k + 1 => ⟨fspec_items.b0_mono (k := k) (fspec_items.hs_mono k)⟩
theorem fspec_items.mono : ∀ k y0 y1, LeO (fspec_items.f k y0 y1) (fspec_items.f (k + 1) y0 y1) := fun k _ _ => have hl := fspec_items.hs_mono k; by unfold fspec_items.f; exact (hl.l0 _ _ _ _)
noncomputable def fspec_items.Kl0 : List Item := .code (lopB (blkB (seqR (seqL (seqR (seqR fspec_items.C)))))) :: .inLoop (lopB (blkB (seqR (seqL (seqR (seqR fspec_items.C)))))) :: .inBlock 0 :: .code (seqR (seqR (seqR fspec_items.C))) :: []
structure fspec_items.OK (h : fspec_items.Hs) : Prop where
 l0 : ∀ {H0 H : Hp} {L : Items} {r : (List Int)} {jk_ : Nat → Value} {c_ : Int} {n : Int} {out : List Int} {t7 : Int} {v_out : Value} {i_out : Item'} (_ : H0.le H) (_he : h.l0 c_ n out t7 = some r) (_h_out : Sl kI64 H 3 i_out v_out out), Wp Tryd.prog 43 25 fspec_items.Kl0 (upd (upd (upd (upd (upd jk_ 0 (.int .u8 c_)) 1 (.int .i64 n)) 4 (.slice none 0 0)) 5 (v_out)) 7 (.int .i64 t7)) H (i_out :: L) (fspec_items.R H0 L r)
theorem fspec_items.b0_ok {k : Nat} {h : fspec_items.Hs} (hh : fspec_items.OK h) {H0 H : Hp} {L : Items} {r : (List Int)} {jk_ : Nat → Value} {c_ : Int} {n : Int} {out : List Int} {t7 : Int} {v_out : Value} {i_out : Item'} (hle : H0.le H) (he : fspec_items.b0 k h c_ n out t7 = some r) (h_out : Sl kI64 H 3 i_out v_out out) : Wp Tryd.prog 43 25 fspec_items.Kl0 (upd (upd (upd (upd (upd jk_ 0 (.int .u8 c_)) 1 (.int .i64 n)) 4 (.slice none 0 0)) 5 (v_out)) 7 (.int .i64 t7)) H (i_out :: L) (fspec_items.R H0 L r) := by
 unfold fspec_items.b0 at he
 unfold fspec_items.Kl0
 refine wR rfl <| w_d rfl (d_lss rfl rfl) <| wE ?_
 rcases its he with ⟨c1, he⟩ | ⟨c1, he⟩
 ·
  refine w_then rfl (dt c1) <| w_skip <| w_seq <| w_block <| wR rfl <| wM (.int .i64 t7) rfl rfl <| wA (.int .i64 t7) rfl rfl <| wQ rfl <| wM (.int .u8 c_) rfl rfl ?_
  refine wM (.int .i64 t7) rfl rfl ?_
  obtain ⟨c2, he⟩ := rq he
  refine w_d rfl (d_shr (c := 128 / 2 ^ shn .u8 t7) rfl rfl c2 rfl) <| w_d rfl (d_band rfl rfl) <| w_d rfl (d_neq rfl rfl) <| w_done ?_
  rcases its he with ⟨c3, he⟩ | ⟨c3, he⟩
  ·
   refine w_else rfl (nd_t c3) <| w_skip <| w_inBlock <| w_region rfl <| w_d rfl (d_add (c := w64 (t7 + 1)) rfl rfl rfl) <| wM (.int .i64 (w64 (t7 + 1))) rfl rfl <| w_done <| w_inLoop <| w_sl 0 (.int .u8 c_) rfl <| w_sl 1 (.int .i64 n) rfl <| w_sl 4 (.slice none 0 0) rfl <| w_sl 5 (v_out) rfl ?_
   refine w_sl 7 (.int .i64 (w64 (t7 + 1))) rfl <| hh.l0 hle he h_out
  ·
   refine w_then rfl (nd_f c3) <| w_region rfl <| wM v_out rfl rfl <| wM (.int .i64 n) rfl rfl <| w_d rfl (d_mul (c := w64 (n * 7)) rfl rfl rfl) <| wM (.int .i64 t7) rfl rfl <| w_d rfl (d_add (c := w64 ((w64 (n * 7)) + t7)) rfl rfl rfl) <| w_d rfl (d_add (c := w64 ((w64 ((w64 (n * 7)) + t7)) + 1)) rfl rfl rfl) <| w_a rfl (o_buildSlice' (kd := kI64) (css := [[.int .i64 (w64 ((w64 ((w64 (n * 7)) + t7)) + 1))]]) (xs := [w64 ((w64 ((w64 (n * 7)) + t7)) + 1)]) (parts := [(0, .int .i64 (w64 ((w64 ((w64 (n * 7)) + t7)) + 1)))]) Tryd.underlying41 ti3 rfl ⟨_, _, rfl, rfl, rfl⟩ ⟨rfl, trivial⟩ rfl (by decide)) ?_
   rintro v4 _ _ ⟨i5, rfl, rfl, h6⟩
   obtain ⟨c7, he⟩ := rq he
   refine w_a rfl (o_append' (kd := kI64) (F := fun z_ => i5 :: z_ :: L) Tryd.underlying41 Tryd.underlying41 ti3 rfl (by first | omega | (simp only [List.nil_append, List.length_cons, List.length_nil]; omega)) rfl rfl h_out (h6.src .here) (fun _ => (.there .here))) ?_
   rintro v8 _ _ ⟨i9, rfl, rfl, h10⟩
   refine wA v8 rfl rfl <| w_done <| w_inBlock <| w_region rfl <| w_d rfl (d_add (c := w64 (t7 + 1)) rfl rfl rfl) <| wM (.int .i64 (w64 (t7 + 1))) rfl rfl <| w_done <| w_inLoop <| w_del .here <| w_sl 0 (.int .u8 c_) rfl <| w_sl 1 (.int .i64 n) rfl <| w_sl 4 (.slice none 0 0) rfl ?_
   refine w_sl 5 (v8) rfl <| w_sl 7 (.int .i64 (w64 (t7 + 1))) rfl <| hh.l0 hle he h10
 ·
  refine w_else rfl (df c1) <| w_exit rfl <| wR rfl <| wM v_out rfl rfl <| wA v_out rfl rfl <| w_done <| w_freeze h_out .here ?_
  intro H11 e12 h13
  obtain rfl := sj he
  refine w_return fn_43 rs_43 (.tmp (v := v_out) rfl .nil) <| ⟨⟨[_], rfl⟩, hle.trans e12, h13⟩
theorem fspec_items.ok : ∀ k, fspec_items.OK (fspec_items.hs k)
 | 0 => ⟨(by intros; exact nomatch (show none = some _ from by assumption))⟩
 | k + 1 => ⟨fspec_items.b0_ok (k := k) (fspec_items.ok k)⟩
theorem fspec_items.calls (k : Nat) {H : Hp} {L : Items} {c_ : Int} {n : Int} {r : (List Int)} (he : fspec_items.f k c_ n = some r) : Ct Tryd.prog 43 ⟨[.int .u8 c_, .int .i64 n]⟩ H L (cR H L (fspec_items.out r)) := by
 refine ct_out (O := fspec_items.out r) ?_
 have hle : H.le H := .refl _
 have hh := fspec_items.ok k
 unfold fspec_items.f at he
 refine ct_enter (args := [.int .u8 c_, .int .i64 n]) fn_43 rfl nt_43 rfl <| wR rfl <| wA (.slice none 0 0) rfl rfl <| wQ rfl <| wA (.slice none 0 0) rfl rfl <| wE <| wR rfl ?_
 refine wM (.int .i64 0) rfl rfl <| w_done <| w_block <| w_loop <| w_none <| w_sl 0 (.int .u8 c_) rfl <| w_sl 1 (.int .i64 n) rfl <| w_sl 4 (.slice none 0 0) rfl <| w_sl 5 (.slice none 0 0) rfl <| w_sl 7 (.int .i64 0) rfl <| hh.l0 hle he (sl_nil _ _ _)
noncomputable def fspec_Decode.C : Code := (Tryd.f16.body).getD .skip
def fspec_Decode.out (r : fspec_Head × (Option Int)) (H : Hp) (v : Value) : Prop := ∃ v0, v = .tuple ⟨[.agg ⟨[v0, .int .i64 r.1.f_Bytes]⟩, errV 73 r.2]⟩ ∧ Ro kI64 H v0 r.1.f_Items
theorem fspec_Decode.out_mono (r : fspec_Head × (Option Int)) {H H' : Hp} {v : Value} (hle : H.le H') (h : fspec_Decode.out r H v) : fspec_Decode.out r H' v := by
 obtain ⟨v0, rfl, h0⟩ := h; exact ⟨v0, rfl, h0.mono hle⟩
abbrev fspec_Decode.R (H0 : Hp) (L : Items) (r : fspec_Head × (Option Int)) := fR H0 L (fspec_Decode.out r)
structure fspec_Decode.Hs where
 l0 : (List Int) → Int → (List Int) → Int → (Option Int) → (List Int) → Int → Int → Option (fspec_Head × (Option Int))
noncomputable def fspec_Decode.b0 (k : Nat) (h : fspec_Decode.Hs)  (b : List Int) (limit : Int) (t4_0 : List Int) (t4_1 : Int) (t5 : Option Int) (h_0 : List Int) (h_1 : Int) (i : Int) : Option (fspec_Head × (Option Int)) := if i = limit then (some ((⟨[], 0⟩ : fspec_Head), some 2)) else (if i = (b.length : Int) then (some ((⟨[], 0⟩ : fspec_Head), some 4)) else (if (0 : Int) ≤ i ∧ i < (b.length : Int) then ((fspec_items.f k (rd b i) i).bind fun y9 => if h_0.length + y9.length ≤ 17592186044320 then (if (0 : Int) ≤ i ∧ i < (b.length : Int) then (if (iand .u8 (rd b i) 1) = 0 then (if (y9.length : Int) = 0 then (some ((⟨[], 0⟩ : fspec_Head), some 3)) else (some ((⟨h_0 ++ y9, w64 (i + 1)⟩ : fspec_Head), none))) else (h.l0 b limit t4_0 t4_1 t5 (h_0 ++ y9) h_1 (w64 (i + 1)))) else none) else none) else none))
noncomputable def fspec_Decode.hs : Nat → fspec_Decode.Hs
 | 0 => ⟨fun _ _ _ _ _ _ _ _ => none⟩
 | k + 1 => ⟨fun x0 x1 x2 x3 x4 x5 x6 x7 => fspec_Decode.b0 k (fspec_Decode.hs k) x0 x1 x2 x3 x4 x5 x6 x7⟩
noncomputable def fspec_Decode.f (k : Nat) (b : List Int) (limit : Int) : Option (fspec_Head × (Option Int)) := (fun h : fspec_Decode.Hs => if ((decide (limit < 1)) || (decide (8 < limit))) = true then (some ((⟨[], 0⟩ : fspec_Head), some 1)) else (h.l0 b limit [] 0 none [] 0 0)) (fspec_Decode.hs k)
structure fspec_Decode.LE (h h' : fspec_Decode.Hs) : Prop where
 l0 : ∀ y0 y1 y2 y3 y4 y5 y6 y7, LeO (h.l0 y0 y1 y2 y3 y4 y5 y6 y7) (h'.l0 y0 y1 y2 y3 y4 y5 y6 y7)
theorem fspec_Decode.b0_mono {k : Nat} {h h' : fspec_Decode.Hs} (hl : fspec_Decode.LE h h') : ∀ y0 y1 y2 y3 y4 y5 y6 y7, LeO (fspec_Decode.b0 k h y0 y1 y2 y3 y4 y5 y6 y7) (fspec_Decode.b0 (k + 1) h' y0 y1 y2 y3 y4 y5 y6 y7) := fun _ _ _ _ _ _ _ _ => (LeO.ite (LeO.refl _) (LeO.ite (LeO.refl _) (LeO.ite (LeO.bind (fspec_items.mono k _ _) fun _ => LeO.ite (LeO.ite (LeO.ite (LeO.ite (LeO.refl _) (LeO.refl _)) (hl.l0 _ _ _ _ _ _ _ _)) (LeO.refl _)) (LeO.refl _)) (LeO.refl _))))
theorem fspec_Decode.hs_mono : ∀ k, fspec_Decode.LE (fspec_Decode.hs k) (fspec_Decode.hs (k + 1))
 | 0 => ⟨fun _ _ _ _ _ _ _ _ => LeO.none _⟩
 | k + 1 => ⟨fspec_Decode.b0_mono (k := k) (fspec_Decode.hs_mono k)⟩
theorem fspec_Decode.mono : ∀ k y0 y1, LeO (fspec_Decode.f k y0 y1) (fspec_Decode.f (k + 1) y0 y1) := fun k _ _ => have hl := fspec_Decode.hs_mono k; by unfold fspec_Decode.f; exact (LeO.ite (LeO.refl _) (hl.l0 _ _ _ _ _ _ _ _))
noncomputable def fspec_Decode.Kl0 : List Item := .code (lopB (blkB (seqR (seqR (seqR (seqR fspec_Decode.C)))))) :: .inLoop (lopB (blkB (seqR (seqR (seqR (seqR fspec_Decode.C)))))) :: .inBlock 0 :: []
structure fspec_Decode.OK (h : fspec_Decode.Hs) : Prop where
 l0 : ∀ {H0 H : Hp} {L : Items} {r : fspec_Head × (Option Int)} {jk_ : Nat → Value} {b : List Int} {limit : Int} {t4_0 : List Int} {t4_1 : Int} {t5 : Option Int} {h_0 : List Int} {h_1 : Int} {i : Int} {v_b : Value} {v_t4_0 : Value} {v_h_0 : Value} {i_h_0 : Item'} {b_t4 : Nat} {b_h_ : Nat} (_ : H0.le H) (_he : h.l0 b limit t4_0 t4_1 t5 h_0 h_1 i = some r) (_h_b : Src kU8 H L v_b b) (_h_t4_0 : Ro kI64 H v_t4_0 t4_0) (_h_h_0 : Sl kI64 H 3 i_h_0 v_h_0 h_0), Wp Tryd.prog 16 58 fspec_Decode.Kl0 (upd (upd (upd (upd (upd (upd jk_ 0 (v_b)) 1 (.int .i64 limit)) 4 (.pointer (some ⟨b_t4, 0, none⟩))) 5 (errV 73 t5)) 6 (.pointer (some ⟨b_h_, 0, none⟩))) 7 (.int .i64 i)) H (i_h_0 :: some (b_h_, .cells ⟨[v_h_0, .int .i64 h_1]⟩ 43 (0, 0)) :: some (b_t4, .cells ⟨[v_t4_0, .int .i64 t4_1]⟩ 43 (0, 0)) :: L) (fspec_Decode.R H0 L r)
theorem fspec_Decode.b0_ok {k : Nat} {h : fspec_Decode.Hs} (hh : fspec_Decode.OK h) {H0 H : Hp} {L : Items} {r : fspec_Head × (Option Int)} {jk_ : Nat → Value} {b : List Int} {limit : Int} {t4_0 : List Int} {t4_1 : Int} {t5 : Option Int} {h_0 : List Int} {h_1 : Int} {i : Int} {v_b : Value} {v_t4_0 : Value} {v_h_0 : Value} {i_h_0 : Item'} {b_t4 : Nat} {b_h_ : Nat} (hle : H0.le H) (he : fspec_Decode.b0 k h b limit t4_0 t4_1 t5 h_0 h_1 i = some r) (h_b : Src kU8 H L v_b b) (h_t4_0 : Ro kI64 H v_t4_0 t4_0) (h_h_0 : Sl kI64 H 3 i_h_0 v_h_0 h_0) : Wp Tryd.prog 16 58 fspec_Decode.Kl0 (upd (upd (upd (upd (upd (upd jk_ 0 (v_b)) 1 (.int .i64 limit)) 4 (.pointer (some ⟨b_t4, 0, none⟩))) 5 (errV 73 t5)) 6 (.pointer (some ⟨b_h_, 0, none⟩))) 7 (.int .i64 i)) H (i_h_0 :: some (b_h_, .cells ⟨[v_h_0, .int .i64 h_1]⟩ 43 (0, 0)) :: some (b_t4, .cells ⟨[v_t4_0, .int .i64 t4_1]⟩ 43 (0, 0)) :: L) (fspec_Decode.R H0 L r) := by
 unfold fspec_Decode.b0 at he
 unfold fspec_Decode.Kl0
 refine w_seq <| w_block <| w_seq <| w_block <| wR rfl <| wM (.int .i64 i) rfl rfl <| wM (.int .i64 limit) rfl rfl <| w_d rfl (d_eql rfl rfl) <| wA (.bool (decide (i = limit))) rfl rfl <| w_done ?_
 rcases its he with ⟨c6, he⟩ | ⟨c6, he⟩
 ·
  refine w_then rfl (dt c6) <| wR rfl <| w_d rfl (d_build (cs' := [.slice none 0 0, .int .i64 0]) Tryd.underlying43 zr43 rfl (by kernel_rfl) (parts := []) rfl .nil) <| w_d rfl (d_iface (v := .int .i64 2) Tryd.underlying73 rfl rfl) <| w_a0 rfl (o_store (v := .agg ⟨[.slice none 0 0, .int .i64 0]⟩) sz43 rfl rfl rfl rfl (oc rfl (oc rfl oz)) (.there (.there .here)) u2) ?_
  rintro _ _ _ ⟨rfl, rfl, rfl⟩
  refine wA (errV 73 (some 2)) rfl rfl <| w_done ?_
  obtain rfl := sj he
  refine w_return fn_16 rs_16 (.box (v := .agg ⟨[.slice none 0 0, .int .i64 0]⟩) rfl ty43 rfl rfl (.there (.there .here)) rfl (.tmp (v := errV 73 (some 2)) rfl .nil)) <| ⟨⟨[_, _, _], rfl⟩, hle, ⟨.slice none 0 0, rfl, (ro_nil _ _)⟩⟩
 ·
  refine w_else rfl (df c6) <| wR rfl <| wM (.int .i64 i) rfl rfl <| wM v_b rfl rfl <| w_d rfl (d_len Tryd.underlying26 rfl h_b.th.th.th) <| w_d rfl (d_eql rfl rfl) <| wA (.bool (decide (i = (b.length : Int)))) rfl rfl <| w_done ?_
  rcases its he with ⟨c7, he⟩ | ⟨c7, he⟩
  ·
   refine w_then rfl (dt c7) <| wR rfl <| w_d rfl (d_build (cs' := [.slice none 0 0, .int .i64 0]) Tryd.underlying43 zr43 rfl (by kernel_rfl) (parts := []) rfl .nil) <| w_d rfl (d_iface (v := .int .i64 4) Tryd.underlying73 rfl rfl) <| w_a0 rfl (o_store (v := .agg ⟨[.slice none 0 0, .int .i64 0]⟩) sz43 rfl rfl rfl rfl (oc rfl (oc rfl oz)) (.there (.there .here)) u2) ?_
   rintro _ _ _ ⟨rfl, rfl, rfl⟩
   refine wA (errV 73 (some 4)) rfl rfl <| w_done ?_
   obtain rfl := sj he
   refine w_return fn_16 rs_16 (.box (v := .agg ⟨[.slice none 0 0, .int .i64 0]⟩) rfl ty43 rfl rfl (.there (.there .here)) rfl (.tmp (v := errV 73 (some 4)) rfl .nil)) <| ⟨⟨[_, _, _], rfl⟩, hle, ⟨.slice none 0 0, rfl, (ro_nil _ _)⟩⟩
  ·
   refine w_else rfl (df c7) <| w_skip <| w_inBlock <| wR rfl <| wM v_b rfl rfl <| wM (.int .i64 i) rfl rfl ?_
   obtain ⟨c8, he⟩ := rq he
   refine w_d rfl (d_index (sz := 1) Tryd.underlying26 sz5 rfl h_b.th.th.th rfl c8) <| w_d rfl (d_ldint ty5 rfl h_b.th.th.th c8) <| wM (.int .i64 i) rfl rfl ?_
   obtain ⟨y9, hy10, he⟩ := bs he
   refine w_a rfl (o_call co43 (vs := [.int .u8 (rd b i), .int .i64 i]) rfl (fspec_items.calls k hy10)) ?_
   rintro v13 H11 _ ⟨rfl, e12, h14⟩
   refine wA v13 rfl rfl <| wQ rfl <| w_d rfl (d_fld (o' := 0) Tryd.underlying43 rfl sz41 rfl rfl rfl) <| wL v_h_0 ty41 rfl rfl (.there .here) rfl rfl <| wM v13 rfl rfl ?_
   obtain ⟨c15, he⟩ := rq he
   refine w_a rfl (o_append' (kd := kI64) (F := fun z_ => z_ :: some (b_h_, .cells ⟨[v_h_0, .int .i64 h_1]⟩ 43 (0, 0)) :: some (b_t4, .cells ⟨[v_t4_0, .int .i64 t4_1]⟩ 43 (0, 0)) :: L) Tryd.underlying41 Tryd.underlying41 ti3 rfl (by first | omega | (simp only [List.nil_append, List.length_cons, List.length_nil]; omega)) rfl rfl (h_h_0.mono e12) h14.src (fun _ => .here)) ?_
   rintro v16 _ _ ⟨i17, rfl, rfl, h18⟩
   refine w_d rfl (d_fld (o' := 0) Tryd.underlying43 rfl sz41 rfl rfl rfl) <| w_a0 rfl (o_store (v := v16) sz41 rfl rfl h18.cells rfl (oc (h18.one) oz) (.there .here) u1) ?_
   rintro _ _ _ ⟨rfl, rfl, rfl⟩
   refine wE <| wR rfl <| wM v_b rfl rfl <| wM (.int .i64 i) rfl rfl ?_
   obtain ⟨c19, he⟩ := rq he
   refine w_d rfl (d_index (sz := 1) Tryd.underlying26 sz5 rfl (h_b.mono e12).th.th.th rfl c19) <| w_d rfl (d_ldint ty5 rfl (h_b.mono e12).th.th.th c19) <| w_d rfl (d_band rfl rfl) <| w_d rfl (d_neq rfl rfl) <| w_done ?_
   rcases its he with ⟨c20, he⟩ | ⟨c20, he⟩
   ·
    refine w_else rfl (nd_t c20) <| w_skip <| w_seq <| wR rfl <| wM v13 rfl rfl <| w_d rfl (d_len Tryd.underlying41 rfl h14.src) <| w_d rfl (d_eql rfl rfl) <| w_done ?_
    rcases its he with ⟨c21, he⟩ | ⟨c21, he⟩
    ·
     refine w_then rfl (dt c21) <| wR rfl <| w_d rfl (d_build (cs' := [.slice none 0 0, .int .i64 0]) Tryd.underlying43 zr43 rfl (by kernel_rfl) (parts := []) rfl .nil) <| w_d rfl (d_iface (v := .int .i64 3) Tryd.underlying73 rfl rfl) <| w_a0 rfl (o_store (v := .agg ⟨[.slice none 0 0, .int .i64 0]⟩) sz43 rfl rfl rfl rfl (oc rfl (oc rfl oz)) (.there (.there .here)) u2) ?_
     rintro _ _ _ ⟨rfl, rfl, rfl⟩
     refine wA (errV 73 (some 3)) rfl rfl <| w_done ?_
     obtain rfl := sj he
     refine w_return fn_16 rs_16 (.box (v := .agg ⟨[.slice none 0 0, .int .i64 0]⟩) rfl ty43 rfl rfl (.there (.there .here)) rfl (.tmp (v := errV 73 (some 3)) rfl .nil)) <| ⟨⟨[_, _, _], rfl⟩, hle.trans e12, ⟨.slice none 0 0, rfl, (ro_nil _ _)⟩⟩
    ·
     refine w_else rfl (df c21) <| w_skip <| wR rfl <| wM (.int .i64 i) rfl rfl <| w_d rfl (d_add (c := w64 (i + 1)) rfl rfl rfl) <| w_d rfl (d_fld (o' := 1) Tryd.underlying43 rfl sz3 rfl rfl rfl) <| w_a0 rfl (o_store (v := .int .i64 (w64 (i + 1))) sz3 rfl rfl rfl rfl (oc rfl oz) (.there .here) (.there u1)) ?_
     rintro _ _ _ ⟨rfl, rfl, rfl⟩
     refine wQ rfl <| wL (.agg ⟨[v16, .int .i64 (w64 (i + 1))]⟩) ty43 rfl rfl (.there .here) rfl rfl <| w_a0 rfl (o_store (v := .agg ⟨[v16, .int .i64 (w64 (i + 1))]⟩) sz43 rfl rfl rfl rfl (oc (h18.one) (oc rfl oz)) (.there (.there .here)) u2) ?_
     rintro _ _ _ ⟨rfl, rfl, rfl⟩
     refine wA (errV 73 none) rfl rfl <| w_done <| w_freeze h18 .here ?_
     intro H22 e23 h24
     obtain rfl := sj he
     refine w_return fn_16 rs_16 (.box (v := .agg ⟨[v16, .int .i64 (w64 (i + 1))]⟩) rfl ty43 rfl rfl (.there (.there .here)) rfl (.tmp (v := errV 73 none) rfl .nil)) <| ⟨⟨[_, _, _], rfl⟩, hle.trans (e12.trans e23), ⟨v16, rfl, h24⟩⟩
   ·
    refine w_then rfl (nd_f c20) <| w_exit rfl <| w_region rfl <| wM (.int .i64 i) rfl rfl <| w_d rfl (d_add (c := w64 (i + 1)) rfl rfl rfl) <| wA (.int .i64 (w64 (i + 1))) rfl rfl <| w_done <| w_inLoop <| w_sl 0 (v_b) rfl <| w_sl 1 (.int .i64 limit) rfl <| w_sl 4 (.pointer (some ⟨b_t4, 0, none⟩)) rfl <| w_sl 5 (errV 73 t5) rfl ?_
    refine w_sl 6 (.pointer (some ⟨b_h_, 0, none⟩)) rfl <| w_sl 7 (.int .i64 (w64 (i + 1))) rfl <| hh.l0 (hle.trans e12) he (h_b.mono e12) (h_t4_0.mono e12) h18
theorem fspec_Decode.ok : ∀ k, fspec_Decode.OK (fspec_Decode.hs k)
 | 0 => ⟨(by intros; exact nomatch (show none = some _ from by assumption))⟩
 | k + 1 => ⟨fspec_Decode.b0_ok (k := k) (fspec_Decode.ok k)⟩
theorem fspec_Decode.calls (k : Nat) {H : Hp} {L : Items} {b : List Int} {limit : Int} {v0_b : Value} {r : fspec_Head × (Option Int)} (he : fspec_Decode.f k b limit = some r) (h0_b : Src kU8 H L v0_b b) : Ct Tryd.prog 16 ⟨[v0_b, .int .i64 limit]⟩ H L (cR H L (fspec_Decode.out r)) := by
 refine ct_out (O := fspec_Decode.out r) ?_
 have hle : H.le H := .refl _
 have hh := fspec_Decode.ok k
 unfold fspec_Decode.f at he
 refine ct_enter (args := [v0_b, .int .i64 limit]) fn_16 rfl nt_16 rfl <| wR rfl <| w_a rfl (o_alloc zr43 rfl) ?_
 rintro _ _ _ ⟨b1, rfl, rfl, rfl⟩
 refine wA (errV 73 none) rfl rfl <| wE <| wR rfl <| wM (.int .i64 limit) rfl rfl <| w_d rfl (d_lss rfl rfl) <| wM (.bool (decide (limit < 1))) rfl rfl <| w_g (g := !(decide (limit < 1))) rfl rfl rfl wn_f (fun g2 => d_move (v := .int .i64 limit) rfl) <| w_g (g := !(decide (limit < 1))) rfl rfl rfl wn_f (fun g3 => d_gtr (cvt g3) rfl) <| w_d rfl (d_or' (b := (decide (limit < 1))) (p := (decide (8 < limit))) rfl rfl rfl) <| w_done ?_
 rcases its he with ⟨c4, he⟩ | ⟨c4, he⟩
 ·
  refine w_then rfl c4 <| wR rfl <| w_d rfl (d_build (cs' := [.slice none 0 0, .int .i64 0]) Tryd.underlying43 zr43 rfl (by kernel_rfl) (parts := []) rfl .nil) <| w_d rfl (d_iface (v := .int .i64 1) Tryd.underlying73 rfl rfl) <| w_a0 rfl (o_store (v := .agg ⟨[.slice none 0 0, .int .i64 0]⟩) sz43 rfl rfl rfl rfl (oc rfl (oc rfl oz)) .here u2) ?_
  rintro _ _ _ ⟨rfl, rfl, rfl⟩
  refine wA (errV 73 (some 1)) rfl rfl <| w_done ?_
  obtain rfl := sj he
  refine w_return fn_16 rs_16 (.box (v := .agg ⟨[.slice none 0 0, .int .i64 0]⟩) rfl ty43 rfl rfl .here rfl (.tmp (v := errV 73 (some 1)) rfl .nil)) <| ⟨⟨[_], rfl⟩, hle, ⟨.slice none 0 0, rfl, (ro_nil _ _)⟩⟩
 ·
  refine w_else rfl (Bool.eq_false_iff.2 c4) <| w_skip <| wR rfl <| w_a rfl (o_alloc zr43 rfl) ?_
  rintro _ _ _ ⟨b5, rfl, rfl, rfl⟩
  refine wQ rfl <| wA (.int .i64 0) rfl rfl <| w_done <| w_block <| w_loop <| w_none <| w_sl 0 (v0_b) rfl <| w_sl 1 (.int .i64 limit) rfl <| w_sl 4 (.pointer (some ⟨b1, 0, none⟩)) rfl <| w_sl 5 (errV 73 none) rfl ?_
  refine w_sl 6 (.pointer (some ⟨b5, 0, none⟩)) rfl <| w_sl 7 (.int .i64 0) rfl <| hh.l0 hle he h0_b (ro_nil _ _) (sl_nil _ _ _)
noncomputable def cat048_fixed.C : Code := (Tryd.f63.body).getD .skip
def cat048_fixed.out (r : Int) (H : Hp) (v : Value) : Prop := v = .int .i64 r
noncomputable def cat048_fixed.f (k : Nat) (item : Int) : Option Int := if (0 : Int) ≤ item ∧ item < 29 then (some (rd [0, 2, 3, 0, 4, 2, 2, 0, 3, 6, 0, 2, 4, 4, 0, 4, 0, 2, 4, 2, 0, 2, 7, 1, 2, 1, 2, 0, 0] item)) else none
theorem cat048_fixed.mono : ∀ k y0, LeO (cat048_fixed.f k y0) (cat048_fixed.f (k + 1) y0) := fun k _ => by unfold cat048_fixed.f; exact (LeO.ite (LeO.refl _) (LeO.refl _))
theorem cat048_fixed.calls (k : Nat) {H : Hp} {L : Items} {item : Int} {r : Int} (he : cat048_fixed.f k item = some r) : Ct Tryd.prog 63 ⟨[.int .i64 item]⟩ H L (fun v H' L' => L = L' ∧ H = H' ∧ v = .int .i64 r) := by
 refine ct_outs (O := cat048_fixed.out r) (fun _ _ h => h) ?_
 have hle : H.le H := .refl _
 unfold cat048_fixed.f at he
 refine ct_enter (args := [.int .i64 item]) fn_63 rfl nt_63 rfl <| wR rfl <| wA (.int .i64 0) rfl rfl <| wQ rfl <| w_d rfl (d_buildArr (cs' := [.int .i64 0, .int .i64 2, .int .i64 3, .int .i64 0, .int .i64 4, .int .i64 2, .int .i64 2, .int .i64 0, .int .i64 3, .int .i64 6, .int .i64 0, .int .i64 2, .int .i64 4, .int .i64 4, .int .i64 0, .int .i64 4, .int .i64 0, .int .i64 2, .int .i64 4, .int .i64 2, .int .i64 0, .int .i64 2, .int .i64 7, .int .i64 1, .int .i64 2, .int .i64 1, .int .i64 2, .int .i64 0, .int .i64 0]) Tryd.underlying144 sz3 zr144 rfl (parts := [(0, .int .i64 0), (1, .int .i64 2), (2, .int .i64 3), (3, .int .i64 0), (4, .int .i64 4), (5, .int .i64 2), (6, .int .i64 2), (7, .int .i64 0), (8, .int .i64 3), (9, .int .i64 6), (10, .int .i64 0), (11, .int .i64 2), (12, .int .i64 4), (13, .int .i64 4), (14, .int .i64 0), (15, .int .i64 4), (16, .int .i64 0), (17, .int .i64 2), (18, .int .i64 4), (19, .int .i64 2), (20, .int .i64 0), (21, .int .i64 2), (22, .int .i64 7), (23, .int .i64 1), (24, .int .i64 2), (25, .int .i64 1), (26, .int .i64 2), (27, .int .i64 0), (28, .int .i64 0)]) rfl (.cons rfl rfl rfl u1 (.cons rfl rfl rfl (.there u1) (.cons rfl rfl rfl (.there (.there u1)) (.cons rfl rfl rfl (.there (.there (.there u1))) (.cons rfl rfl rfl (.there (.there (.there (.there u1)))) (.cons rfl rfl rfl (.there (.there (.there (.there (.there u1))))) (.cons rfl rfl rfl (.there (.there (.there (.there (.there (.there u1)))))) (.cons rfl rfl rfl (.there (.there (.there (.there (.there (.there (.there u1))))))) (.cons rfl rfl rfl (.there (.there (.there (.there (.there (.there (.there (.there u1)))))))) (.cons rfl rfl rfl (.there (.there (.there (.there (.there (.there (.there (.there (.there u1))))))))) (.cons rfl rfl rfl (.there (.there (.there (.there (.there (.there (.there (.there (.there (.there u1)))))))))) (.cons rfl rfl rfl (.there (.there (.there (.there (.there (.there (.there (.there (.there (.there (.there u1))))))))))) (.cons rfl rfl rfl (.there (.there (.there (.there (.there (.there (.there (.there (.there (.there (.there (.there u1)))))))))))) (.cons rfl rfl rfl (.there (.there (.there (.there (.there (.there (.there (.there (.there (.there (.there (.there (.there u1))))))))))))) (.cons rfl rfl rfl (.there (.there (.there (.there (.there (.there (.there (.there (.there (.there (.there (.there (.there (.there u1)))))))))))))) (.cons rfl rfl rfl (.there (.there (.there (.there (.there (.there (.there (.there (.there (.there (.there (.there (.there (.there (.there u1))))))))))))))) (.cons rfl rfl rfl (.there (.there (.there (.there (.there (.there (.there (.there (.there (.there (.there (.there (.there (.there (.there (.there u1)))))))))))))))) (.cons rfl rfl rfl (.there (.there (.there (.there (.there (.there (.there (.there (.there (.there (.there (.there (.there (.there (.there (.there (.there u1))))))))))))))))) (.cons rfl rfl rfl (.there (.there (.there (.there (.there (.there (.there (.there (.there (.there (.there (.there (.there (.there (.there (.there (.there (.there u1)))))))))))))))))) (.cons rfl rfl rfl (.there (.there (.there (.there (.there (.there (.there (.there (.there (.there (.there (.there (.there (.there (.there (.there (.there (.there (.there u1))))))))))))))))))) (.cons rfl rfl rfl (.there (.there (.there (.there (.there (.there (.there (.there (.there (.there (.there (.there (.there (.there (.there (.there (.there (.there (.there (.there u1)))))))))))))))))))) (.cons rfl rfl rfl (.there (.there (.there (.there (.there (.there (.there (.there (.there (.there (.there (.there (.there (.there (.there (.there (.there (.there (.there (.there (.there u1))))))))))))))))))))) (.cons rfl rfl rfl (.there (.there (.there (.there (.there (.there (.there (.there (.there (.there (.there (.there (.there (.there (.there (.there (.there (.there (.there (.there (.there (.there u1)))))))))))))))))))))) (.cons rfl rfl rfl (.there (.there (.there (.there (.there (.there (.there (.there (.there (.there (.there (.there (.there (.there (.there (.there (.there (.there (.there (.there (.there (.there (.there u1))))))))))))))))))))))) (.cons rfl rfl rfl (.there (.there (.there (.there (.there (.there (.there (.there (.there (.there (.there (.there (.there (.there (.there (.there (.there (.there (.there (.there (.there (.there (.there (.there u1)))))))))))))))))))))))) (.cons rfl rfl rfl (.there (.there (.there (.there (.there (.there (.there (.there (.there (.there (.there (.there (.there (.there (.there (.there (.there (.there (.there (.there (.there (.there (.there (.there (.there u1))))))))))))))))))))))))) (.cons rfl rfl rfl (.there (.there (.there (.there (.there (.there (.there (.there (.there (.there (.there (.there (.there (.there (.there (.there (.there (.there (.there (.there (.there (.there (.there (.there (.there (.there u1)))))))))))))))))))))))))) (.cons rfl rfl rfl (.there (.there (.there (.there (.there (.there (.there (.there (.there (.there (.there (.there (.there (.there (.there (.there (.there (.there (.there (.there (.there (.there (.there (.there (.there (.there (.there u1))))))))))))))))))))))))))) (.cons rfl rfl rfl (.there (.there (.there (.there (.there (.there (.there (.there (.there (.there (.there (.there (.there (.there (.there (.there (.there (.there (.there (.there (.there (.there (.there (.there (.there (.there (.there (.there u1)))))))))))))))))))))))))))) .nil)))))))))))))))))))))))))))))) <| wM (.int .i64 item) rfl rfl ?_
 obtain ⟨c1, he⟩ := rq he
 refine w_d rfl (d_idxV (v := .int .i64 (rd [0, 2, 3, 0, 4, 2, 2, 0, 3, 6, 0, 2, 4, 4, 0, 4, 0, 2, 4, 2, 0, 2, 7, 1, 2, 1, 2, 0, 0] item)) Tryd.underlying144 ty3 rfl rfl (by exact c1) (by exact idx_var (K := .i64) (xs := [0, 2, 3, 0, 4, 2, 2, 0, 3, 6, 0, 2, 4, 4, 0, 4, 0, 2, 4, 2, 0, 2, 7, 1, 2, 1, 2, 0, 0]) (by exact c1)) rfl rfl rfl) <| wA (.int .i64 (rd [0, 2, 3, 0, 4, 2, 2, 0, 3, 6, 0, 2, 4, 4, 0, 4, 0, 2, 4, 2, 0, 2, 7, 1, 2, 1, 2, 0, 0] item)) rfl rfl <| w_done ?_
 obtain rfl := sj he
 refine w_return fn_63 rs_63 (.tmp (v := .int .i64 (rd [0, 2, 3, 0, 4, 2, 2, 0, 3, 6, 0, 2, 4, 4, 0, 4, 0, 2, 4, 2, 0, 2, 7, 1, 2, 1, 2, 0, 0] item)) rfl .nil) <| ⟨⟨[], rfl⟩, hle, rfl⟩
noncomputable def cat048_chain.C : Code := (Tryd.f79.body).getD .skip
def cat048_chain.out (r : Int × (Option Int)) (H : Hp) (v : Value) : Prop := v = .tuple ⟨[.int .i64 r.1, errV 73 r.2]⟩
abbrev cat048_chain.R (H0 : Hp) (L : Items) (r : Int × (Option Int)) := fR H0 L (cat048_chain.out r)
structure cat048_chain.Hs where
 l0 : Int → (Option Int) → (List Int) → Int → Int → Option (Int × (Option Int))
noncomputable def cat048_chain.b0 (k : Nat) (h : cat048_chain.Hs)  (t2 : Int) (t3 : Option Int) (t6 : List Int) (t7 : Int) (t8 : Int) : Option (Int × (Option Int)) := if t8 < t7 then (if (0 : Int) ≤ t8 ∧ t8 < (t6.length : Int) then (if (iand .u8 (rd t6 t8) 1) = 0 then (some (w64 (t8 + 1), none)) else (h.l0 t2 t3 t6 t7 (w64 (t8 + 1)))) else none) else (some (0, some 4))
noncomputable def cat048_chain.hs : Nat → cat048_chain.Hs
 | 0 => ⟨fun _ _ _ _ _ => none⟩
 | k + 1 => ⟨fun x0 x1 x2 x3 x4 => cat048_chain.b0 k (cat048_chain.hs k) x0 x1 x2 x3 x4⟩
noncomputable def cat048_chain.f (k : Nat) (b : List Int) : Option (Int × (Option Int)) := (fun h : cat048_chain.Hs => h.l0 0 none b (b.length : Int) 0) (cat048_chain.hs k)
structure cat048_chain.LE (h h' : cat048_chain.Hs) : Prop where
 l0 : ∀ y0 y1 y2 y3 y4, LeO (h.l0 y0 y1 y2 y3 y4) (h'.l0 y0 y1 y2 y3 y4)
theorem cat048_chain.b0_mono {k : Nat} {h h' : cat048_chain.Hs} (hl : cat048_chain.LE h h') : ∀ y0 y1 y2 y3 y4, LeO (cat048_chain.b0 k h y0 y1 y2 y3 y4) (cat048_chain.b0 (k + 1) h' y0 y1 y2 y3 y4) := fun _ _ _ _ _ => (LeO.ite (LeO.ite (LeO.ite (LeO.refl _) (hl.l0 _ _ _ _ _)) (LeO.refl _)) (LeO.refl _))
theorem cat048_chain.hs_mono : ∀ k, cat048_chain.LE (cat048_chain.hs k) (cat048_chain.hs (k + 1))
 | 0 => ⟨fun _ _ _ _ _ => LeO.none _⟩
 | k + 1 => ⟨cat048_chain.b0_mono (k := k) (cat048_chain.hs_mono k)⟩
theorem cat048_chain.mono : ∀ k y0, LeO (cat048_chain.f k y0) (cat048_chain.f (k + 1) y0) := fun k _ => have hl := cat048_chain.hs_mono k; by unfold cat048_chain.f; exact (hl.l0 _ _ _ _ _)
noncomputable def cat048_chain.Kl0 : List Item := .code (lopB (blkB (seqR (seqL (seqR cat048_chain.C))))) :: .inLoop (lopB (blkB (seqR (seqL (seqR cat048_chain.C))))) :: .inBlock 0 :: .code (seqR (seqR cat048_chain.C)) :: []
structure cat048_chain.OK (h : cat048_chain.Hs) : Prop where
 l0 : ∀ {H0 H : Hp} {L : Items} {r : Int × (Option Int)} {jk_ : Nat → Value} {t2 : Int} {t3 : Option Int} {t6 : List Int} {t7 : Int} {t8 : Int} {v_t6 : Value} (_ : H0.le H) (_he : h.l0 t2 t3 t6 t7 t8 = some r) (_h_t6 : Src kU8 H L v_t6 t6), Wp Tryd.prog 79 20 cat048_chain.Kl0 (upd (upd (upd (upd (upd jk_ 2 (.int .i64 t2)) 3 (errV 73 t3)) 6 (v_t6)) 7 (.int .i64 t7)) 8 (.int .i64 t8)) H (L) (cat048_chain.R H0 L r)
theorem cat048_chain.b0_ok {k : Nat} {h : cat048_chain.Hs} (hh : cat048_chain.OK h) {H0 H : Hp} {L : Items} {r : Int × (Option Int)} {jk_ : Nat → Value} {t2 : Int} {t3 : Option Int} {t6 : List Int} {t7 : Int} {t8 : Int} {v_t6 : Value} (hle : H0.le H) (he : cat048_chain.b0 k h t2 t3 t6 t7 t8 = some r) (h_t6 : Src kU8 H L v_t6 t6) : Wp Tryd.prog 79 20 cat048_chain.Kl0 (upd (upd (upd (upd (upd jk_ 2 (.int .i64 t2)) 3 (errV 73 t3)) 6 (v_t6)) 7 (.int .i64 t7)) 8 (.int .i64 t8)) H (L) (cat048_chain.R H0 L r) := by
 unfold cat048_chain.b0 at he
 unfold cat048_chain.Kl0
 refine wR rfl <| w_d rfl (d_lss rfl rfl) <| wE ?_
 rcases its he with ⟨c1, he⟩ | ⟨c1, he⟩
 ·
  refine w_then rfl (dt c1) <| w_skip <| w_seq <| w_block <| wR rfl <| wM (.int .i64 t8) rfl rfl ?_
  obtain ⟨c2, he⟩ := rq he
  refine w_d rfl (d_index (sz := 1) Tryd.underlying26 sz5 rfl h_t6 rfl c2) <| w_d rfl (d_ldint ty5 rfl h_t6 c2) <| wA (.int .i64 t8) rfl rfl <| wA (.int .u8 (rd t6 t8)) rfl rfl <| wQ rfl <| wM (.int .u8 (rd t6 t8)) rfl rfl <| w_d rfl (d_band rfl rfl) <| w_d rfl (d_eql rfl rfl) <| w_done ?_
  rcases its he with ⟨c3, he⟩ | ⟨c3, he⟩
  ·
   refine w_then rfl (dt c3) <| wR rfl <| wM (.int .i64 t8) rfl rfl <| w_d rfl (d_add (c := w64 (t8 + 1)) rfl rfl rfl) <| wA (.int .i64 (w64 (t8 + 1))) rfl rfl <| wA (errV 73 none) rfl rfl <| w_done ?_
   obtain rfl := sj he
   refine w_return fn_79 rs_79 (.tmp (v := .int .i64 (w64 (t8 + 1))) rfl (.tmp (v := errV 73 none) rfl .nil)) <| ⟨⟨[], rfl⟩, hle, rfl⟩
  ·
   refine w_else rfl (df c3) <| w_skip <| w_inBlock <| w_region rfl <| w_d rfl (d_add (c := w64 (t8 + 1)) rfl rfl rfl) <| wM (.int .i64 (w64 (t8 + 1))) rfl rfl <| w_done <| w_inLoop <| w_sl 2 (.int .i64 t2) rfl <| w_sl 3 (errV 73 t3) rfl <| w_sl 6 (v_t6) rfl <| w_sl 7 (.int .i64 t7) rfl ?_
   refine w_sl 8 (.int .i64 (w64 (t8 + 1))) rfl <| hh.l0 hle he h_t6
 ·
  refine w_else rfl (df c1) <| w_exit rfl <| wR rfl <| w_d rfl (d_iface (v := .int .i64 4) Tryd.underlying73 rfl rfl) <| wA (.int .i64 0) rfl rfl <| wA (errV 73 (some 4)) rfl rfl <| w_done ?_
  obtain rfl := sj he
  refine w_return fn_79 rs_79 (.tmp (v := .int .i64 0) rfl (.tmp (v := errV 73 (some 4)) rfl .nil)) <| ⟨⟨[], rfl⟩, hle, rfl⟩
theorem cat048_chain.ok : ∀ k, cat048_chain.OK (cat048_chain.hs k)
 | 0 => ⟨(by intros; exact nomatch (show none = some _ from by assumption))⟩
 | k + 1 => ⟨cat048_chain.b0_ok (k := k) (cat048_chain.ok k)⟩
theorem cat048_chain.calls (k : Nat) {H : Hp} {L : Items} {b : List Int} {v0_b : Value} {r : Int × (Option Int)} (he : cat048_chain.f k b = some r) (h0_b : Src kU8 H L v0_b b) : Ct Tryd.prog 79 ⟨[v0_b]⟩ H L (fun v H' L' => L = L' ∧ H = H' ∧ v = .tuple ⟨[.int .i64 r.1, errV 73 r.2]⟩) := by
 refine ct_outs (O := cat048_chain.out r) (fun _ _ h => h) ?_
 have hle : H.le H := .refl _
 have hh := cat048_chain.ok k
 unfold cat048_chain.f at he
 refine ct_enter (args := [v0_b]) fn_79 rfl nt_79 rfl <| wR rfl <| wA (.int .i64 0) rfl rfl <| wA (errV 73 none) rfl rfl <| wE <| wR rfl <| wM v0_b rfl rfl <| w_d rfl (d_len Tryd.underlying26 rfl h0_b) <| wM (.int .i64 0) rfl rfl ?_
 refine w_done <| w_block <| w_loop <| w_sl 2 (.int .i64 0) rfl <| w_sl 3 (errV 73 none) rfl <| w_sl 6 (v0_b) rfl <| w_sl 7 (.int .i64 (b.length : Int)) rfl <| w_sl 8 (.int .i64 0) rfl <| hh.l0 hle he h0_b
noncomputable def cat048_ones.C : Code := (Tryd.f80.body).getD .skip
def cat048_ones.out (r : Int × (Option Int)) (H : Hp) (v : Value) : Prop := v = .tuple ⟨[.int .i64 r.1, errV 73 r.2]⟩
abbrev cat048_ones.R (H0 : Hp) (L : Items) (r : Int × (Option Int)) := fR H0 L (cat048_ones.out r)
structure cat048_ones.Hs where
 l0 : Int → (List Int) → Int → Int → Option (Int × (Option Int))
 l1 : Int → Int → (List Int) → Int → Int → Option (Int × (Option Int))
noncomputable def cat048_ones.b0 (k : Nat) (h : cat048_ones.Hs)  (all : Int) (t20 : List Int) (t21 : Int) (t22 : Int) : Option (Int × (Option Int)) := if t22 < t21 then (if (0 : Int) ≤ t22 ∧ t22 < (t20.length : Int) then (h.l1 all ((rd t20 t22) / 2) t20 t21 t22) else none) else (some (all, none))
noncomputable def cat048_ones.b1 (k : Nat) (h : cat048_ones.Hs)  (all : Int) (c_ : Int) (t20 : List Int) (t21 : Int) (t22 : Int) : Option (Int × (Option Int)) := if 0 < c_ then (h.l1 (w64 (all + (w64 (iand .u8 c_ 1)))) (c_ / 2) t20 t21 t22) else (h.l0 all t20 t21 (w64 (t22 + 1)))
noncomputable def cat048_ones.hs : Nat → cat048_ones.Hs
 | 0 => ⟨fun _ _ _ _ => none, fun _ _ _ _ _ => none⟩
 | k + 1 => ⟨fun x0 x1 x2 x3 => cat048_ones.b0 k (cat048_ones.hs k) x0 x1 x2 x3, fun x0 x1 x2 x3 x4 => cat048_ones.b1 k (cat048_ones.hs k) x0 x1 x2 x3 x4⟩
noncomputable def cat048_ones.f (k : Nat) (b : List Int) : Option (Int × (Option Int)) := (fun h : cat048_ones.Hs => (cat048_chain.f k b).bind fun y1 => if y1.2.isSome = true then (some (0, y1.2)) else (if (0 : Int) ≤ 0 ∧ (0 : Int) ≤ y1.1 ∧ y1.1 ≤ (b.length : Int) then (h.l0 y1.1 (cut b 0 y1.1) ((cut b 0 y1.1).length : Int) 0) else none)) (cat048_ones.hs k)
structure cat048_ones.LE (h h' : cat048_ones.Hs) : Prop where
 l0 : ∀ y0 y1 y2 y3, LeO (h.l0 y0 y1 y2 y3) (h'.l0 y0 y1 y2 y3)
 l1 : ∀ y0 y1 y2 y3 y4, LeO (h.l1 y0 y1 y2 y3 y4) (h'.l1 y0 y1 y2 y3 y4)
theorem cat048_ones.b0_mono {k : Nat} {h h' : cat048_ones.Hs} (hl : cat048_ones.LE h h') : ∀ y0 y1 y2 y3, LeO (cat048_ones.b0 k h y0 y1 y2 y3) (cat048_ones.b0 (k + 1) h' y0 y1 y2 y3) := fun _ _ _ _ => (LeO.ite (LeO.ite (hl.l1 _ _ _ _ _) (LeO.refl _)) (LeO.refl _))
theorem cat048_ones.b1_mono {k : Nat} {h h' : cat048_ones.Hs} (hl : cat048_ones.LE h h') : ∀ y0 y1 y2 y3 y4, LeO (cat048_ones.b1 k h y0 y1 y2 y3 y4) (cat048_ones.b1 (k + 1) h' y0 y1 y2 y3 y4) := fun _ _ _ _ _ => (LeO.ite (hl.l1 _ _ _ _ _) (hl.l0 _ _ _ _))
theorem cat048_ones.hs_mono : ∀ k, cat048_ones.LE (cat048_ones.hs k) (cat048_ones.hs (k + 1))
 | 0 => ⟨fun _ _ _ _ => LeO.none _, fun _ _ _ _ _ => LeO.none _⟩
 | k + 1 => ⟨cat048_ones.b0_mono (k := k) (cat048_ones.hs_mono k), cat048_ones.b1_mono (k := k) (cat048_ones.hs_mono k)⟩
theorem cat048_ones.mono : ∀ k y0, LeO (cat048_ones.f k y0) (cat048_ones.f (k + 1) y0) := fun k _ => have hl := cat048_ones.hs_mono k; by unfold cat048_ones.f; exact (LeO.bind (cat048_chain.mono k _) fun _ => LeO.ite (LeO.refl _) (LeO.ite (hl.l0 _ _ _ _) (LeO.refl _)))
noncomputable def cat048_ones.Kl0 : List Item := .code (lopB (blkB (seqR (seqL (seqR (seqR (seqR (seqR cat048_ones.C)))))))) :: .inLoop (lopB (blkB (seqR (seqL (seqR (seqR (seqR (seqR cat048_ones.C)))))))) :: .inBlock 0 :: .code (seqR (seqR (seqR (seqR (seqR cat048_ones.C))))) :: []
noncomputable def cat048_ones.Kl1 : List Item := .code (lopB (blkB (seqR (seqR (blkB (seqL (seqR (seqR (lopB (blkB (seqR (seqL (seqR (seqR (seqR (seqR cat048_ones.C)))))))))))))))) :: .inLoop (lopB (blkB (seqR (seqR (blkB (seqL (seqR (seqR (lopB (blkB (seqR (seqL (seqR (seqR (seqR (seqR cat048_ones.C)))))))))))))))) :: .inBlock 2 :: .inBlock 1 :: .code (seqR (seqR (seqR (lopB (blkB (seqR (seqL (seqR (seqR (seqR (seqR cat048_ones.C))))))))))) :: .inLoop (lopB (blkB (seqR (seqL (seqR (seqR (seqR (seqR cat048_ones.C)))))))) :: .inBlock 0 :: .code (seqR (seqR (seqR (seqR (seqR cat048_ones.C))))) :: []
structure cat048_ones.OK (h : cat048_ones.Hs) : Prop where
 l0 : ∀ {H0 H : Hp} {L : Items} {r : Int × (Option Int)} {jk_ : Nat → Value} {all : Int} {t20 : List Int} {t21 : Int} {t22 : Int} {v_t20 : Value} (_ : H0.le H) (_he : h.l0 all t20 t21 t22 = some r) (_h_t20 : Src kU8 H L v_t20 t20), Wp Tryd.prog 80 39 cat048_ones.Kl0 (upd (upd (upd (upd (upd (upd jk_ 2 (.int .i64 0)) 3 (errV 73 none)) 6 (.int .i64 all)) 20 (v_t20)) 21 (.int .i64 t21)) 22 (.int .i64 t22)) H (L) (cat048_ones.R H0 L r)
 l1 : ∀ {H0 H : Hp} {L : Items} {r : Int × (Option Int)} {jk_ : Nat → Value} {all : Int} {c_ : Int} {t20 : List Int} {t21 : Int} {t22 : Int} {v_t20 : Value} (_ : H0.le H) (_he : h.l1 all c_ t20 t21 t22 = some r) (_h_t20 : Src kU8 H L v_t20 t20), Wp Tryd.prog 80 39 cat048_ones.Kl1 (upd (upd (upd (upd (upd (upd (upd jk_ 2 (.int .i64 0)) 3 (errV 73 none)) 6 (.int .i64 all)) 8 (.int .u8 c_)) 20 (v_t20)) 21 (.int .i64 t21)) 22 (.int .i64 t22)) H (L) (cat048_ones.R H0 L r)
theorem cat048_ones.b0_ok {k : Nat} {h : cat048_ones.Hs} (hh : cat048_ones.OK h) {H0 H : Hp} {L : Items} {r : Int × (Option Int)} {jk_ : Nat → Value} {all : Int} {t20 : List Int} {t21 : Int} {t22 : Int} {v_t20 : Value} (hle : H0.le H) (he : cat048_ones.b0 k h all t20 t21 t22 = some r) (h_t20 : Src kU8 H L v_t20 t20) : Wp Tryd.prog 80 39 cat048_ones.Kl0 (upd (upd (upd (upd (upd (upd jk_ 2 (.int .i64 0)) 3 (errV 73 none)) 6 (.int .i64 all)) 20 (v_t20)) 21 (.int .i64 t21)) 22 (.int .i64 t22)) H (L) (cat048_ones.R H0 L r) := by
 unfold cat048_ones.b0 at he
 unfold cat048_ones.Kl0
 refine wR rfl <| w_d rfl (d_lss rfl rfl) <| wE ?_
 rcases its he with ⟨c7, he⟩ | ⟨c7, he⟩
 ·
  refine w_then rfl (dt c7) <| w_skip <| w_seq <| w_block <| wR rfl ?_
  obtain ⟨c8, he⟩ := rq he
  refine w_d rfl (d_index (sz := 1) Tryd.underlying26 sz5 rfl h_t20 rfl c8) <| w_d rfl (d_ldint ty5 rfl h_t20 c8) <| wA (.int .u8 (rd t20 t22)) rfl rfl <| wQ rfl <| wM (.int .u8 (rd t20 t22)) rfl rfl <| w_d rfl (d_shr (c := (rd t20 t22) / 2) rfl rfl (by decide) rfl) <| wA (.int .u8 ((rd t20 t22) / 2)) rfl rfl <| w_done <| w_block <| w_loop ?_
  refine w_sl 2 (.int .i64 0) rfl <| w_sl 3 (errV 73 none) rfl <| w_sl 6 (.int .i64 all) rfl <| w_sl 8 (.int .u8 ((rd t20 t22) / 2)) rfl <| w_sl 20 (v_t20) rfl <| w_sl 21 (.int .i64 t21) rfl <| w_sl 22 (.int .i64 t22) rfl <| hh.l1 hle he h_t20
 ·
  refine w_else rfl (df c7) <| w_exit rfl <| wR rfl <| wM (.int .i64 all) rfl rfl <| wA (.int .i64 all) rfl rfl <| wA (errV 73 none) rfl rfl <| w_done ?_
  obtain rfl := sj he
  refine w_return fn_80 rs_80 (.tmp (v := .int .i64 all) rfl (.tmp (v := errV 73 none) rfl .nil)) <| ⟨⟨[], rfl⟩, hle, rfl⟩
theorem cat048_ones.b1_ok {k : Nat} {h : cat048_ones.Hs} (hh : cat048_ones.OK h) {H0 H : Hp} {L : Items} {r : Int × (Option Int)} {jk_ : Nat → Value} {all : Int} {c_ : Int} {t20 : List Int} {t21 : Int} {t22 : Int} {v_t20 : Value} (hle : H0.le H) (he : cat048_ones.b1 k h all c_ t20 t21 t22 = some r) (h_t20 : Src kU8 H L v_t20 t20) : Wp Tryd.prog 80 39 cat048_ones.Kl1 (upd (upd (upd (upd (upd (upd (upd jk_ 2 (.int .i64 0)) 3 (errV 73 none)) 6 (.int .i64 all)) 8 (.int .u8 c_)) 20 (v_t20)) 21 (.int .i64 t21)) 22 (.int .i64 t22)) H (L) (cat048_ones.R H0 L r) := by
 unfold cat048_ones.b1 at he
 unfold cat048_ones.Kl1
 refine w_seq <| wR rfl <| wM (.int .u8 c_) rfl rfl <| w_d rfl (d_gtr rfl rfl) <| w_done ?_
 rcases its he with ⟨c9, he⟩ | ⟨c9, he⟩
 ·
  refine w_then rfl (dt c9) <| w_skip <| w_seq <| w_block <| w_region rfl <| wM (.int .i64 all) rfl rfl <| wM (.int .u8 c_) rfl rfl <| w_d rfl (d_band rfl rfl) <| w_d rfl (d_conv (c := w64 (iand .u8 c_ 1)) Tryd.underlying5 Tryd.underlying3 rfl rfl) <| w_d rfl (d_add (c := w64 (all + (w64 (iand .u8 c_ 1)))) rfl rfl rfl) <| wA (.int .i64 (w64 (all + (w64 (iand .u8 c_ 1))))) rfl rfl <| w_done ?_
  refine w_inBlock <| w_region rfl <| wM (.int .u8 c_) rfl rfl <| w_d rfl (d_shr (c := c_ / 2) rfl rfl (by decide) rfl) <| wA (.int .u8 (c_ / 2)) rfl rfl <| w_done <| w_inLoop <| w_sl 2 (.int .i64 0) rfl <| w_sl 3 (errV 73 none) rfl <| w_sl 6 (.int .i64 (w64 (all + (w64 (iand .u8 c_ 1))))) rfl <| w_sl 8 (.int .u8 (c_ / 2)) rfl <| w_sl 20 (v_t20) rfl ?_
  refine w_sl 21 (.int .i64 t21) rfl <| w_sl 22 (.int .i64 t22) rfl <| hh.l1 hle he h_t20
 ·
  refine w_else rfl (df c9) <| w_exit rfl <| w_inBlock <| w_region rfl <| w_d rfl (d_add (c := w64 (t22 + 1)) rfl rfl rfl) <| wM (.int .i64 (w64 (t22 + 1))) rfl rfl <| w_done <| w_inLoop <| w_sl 2 (.int .i64 0) rfl <| w_sl 3 (errV 73 none) rfl <| w_sl 6 (.int .i64 all) rfl <| w_sl 20 (v_t20) rfl ?_
  refine w_sl 21 (.int .i64 t21) rfl <| w_sl 22 (.int .i64 (w64 (t22 + 1))) rfl <| hh.l0 hle he h_t20
theorem cat048_ones.ok : ∀ k, cat048_ones.OK (cat048_ones.hs k)
 | 0 => ⟨(by intros; exact nomatch (show none = some _ from by assumption)), (by intros; exact nomatch (show none = some _ from by assumption))⟩
 | k + 1 => ⟨cat048_ones.b0_ok (k := k) (cat048_ones.ok k), cat048_ones.b1_ok (k := k) (cat048_ones.ok k)⟩
theorem cat048_ones.calls (k : Nat) {H : Hp} {L : Items} {b : List Int} {v0_b : Value} {r : Int × (Option Int)} (he : cat048_ones.f k b = some r) (h0_b : Src kU8 H L v0_b b) : Ct Tryd.prog 80 ⟨[v0_b]⟩ H L (fun v H' L' => L = L' ∧ H = H' ∧ v = .tuple ⟨[.int .i64 r.1, errV 73 r.2]⟩) := by
 refine ct_outs (O := cat048_ones.out r) (fun _ _ h => h) ?_
 have hle : H.le H := .refl _
 have hh := cat048_ones.ok k
 unfold cat048_ones.f at he
 refine ct_enter (args := [v0_b]) fn_80 rfl nt_80 rfl <| wR rfl <| wA (.int .i64 0) rfl rfl <| wA (errV 73 none) rfl rfl <| wQ rfl <| wM v0_b rfl rfl ?_
 obtain ⟨y1, hy2, he⟩ := bs he
 refine w_d rfl (call_d (o_call co79 (vs := [v0_b]) rfl (cat048_chain.calls k hy2 h0_b))) <| wM (.tuple ⟨[.int .i64 y1.1, errV 73 y1.2]⟩) rfl rfl <| w_d rfl (d_ext (vs := [.int .i64 y1.1, errV 73 y1.2]) rfl rfl) <| w_d rfl (d_ext (vs := [.int .i64 y1.1, errV 73 y1.2]) rfl rfl) <| wA (.int .i64 y1.1) rfl rfl <| wA (errV 73 y1.2) rfl rfl <| wE <| wR rfl <| wM (errV 73 y1.2) rfl rfl <| w_d rfl (d_nenil (e := y1.2) Tryd.underlying28 rfl) ?_
 refine w_done ?_
 rcases its he with ⟨c5, he⟩ | ⟨c5, he⟩
 ·
  refine w_then rfl c5 <| wR rfl <| wM (errV 73 y1.2) rfl rfl <| wA (.int .i64 0) rfl rfl <| wA (errV 73 y1.2) rfl rfl <| w_done ?_
  obtain rfl := sj he
  refine w_return fn_80 rs_80 (.tmp (v := .int .i64 0) rfl (.tmp (v := errV 73 y1.2) rfl .nil)) <| ⟨⟨[], rfl⟩, hle, rfl⟩
 ·
  refine w_else rfl (Bool.eq_false_iff.2 c5) <| w_skip <| wR rfl <| wM (.int .i64 y1.1) rfl rfl <| wA (.int .i64 y1.1) rfl rfl <| wE <| wR rfl <| wM v0_b rfl rfl <| wM (.int .i64 y1.1) rfl rfl ?_
  obtain ⟨c6, he⟩ := rq he
  refine w_d rfl (d_cutv (kd := kU8) Tryd.underlying26 sz5 rfl h0_b (.inl ⟨rfl, rfl⟩) (.inr ⟨_, _, rfl, rfl⟩) c6) <| w_d rfl (d_len Tryd.underlying26 rfl (src_cutv (kd := kU8) h0_b c6)) <| wM (.int .i64 0) rfl rfl <| w_done <| w_block <| w_loop <| w_sl 2 (.int .i64 0) rfl <| w_sl 3 (errV 73 none) rfl <| w_sl 6 (.int .i64 y1.1) rfl <| w_sl 20 (cutv kU8.sz v0_b 0 y1.1) rfl <| w_sl 21 (.int .i64 ((cut b 0 y1.1).length : Int)) rfl <| w_sl 22 (.int .i64 0) rfl <| hh.l0 hle he (src_cutv (kd := kU8) h0_b c6)
noncomputable def cat048_repeated.C : Code := (Tryd.f81.body).getD .skip
def cat048_repeated.out (r : Int × (Option Int)) (H : Hp) (v : Value) : Prop := v = .tuple ⟨[.int .i64 r.1, errV 73 r.2]⟩
noncomputable def cat048_repeated.f (k : Nat) (b : List Int) (size : Int) : Option (Int × (Option Int)) := if (b.length : Int) = 0 then (some (0, some 4)) else (if (0 : Int) ≤ 0 ∧ 0 < (b.length : Int) then (some (w64 (1 + (w64 ((w64 (rd b 0)) * size))), none)) else none)
theorem cat048_repeated.mono : ∀ k y0 y1, LeO (cat048_repeated.f k y0 y1) (cat048_repeated.f (k + 1) y0 y1) := fun k _ _ => by unfold cat048_repeated.f; exact (LeO.ite (LeO.refl _) (LeO.ite (LeO.refl _) (LeO.refl _)))
theorem cat048_repeated.calls (k : Nat) {H : Hp} {L : Items} {b : List Int} {size : Int} {v0_b : Value} {r : Int × (Option Int)} (he : cat048_repeated.f k b size = some r) (h0_b : Src kU8 H L v0_b b) : Ct Tryd.prog 81 ⟨[v0_b, .int .i64 size]⟩ H L (fun v H' L' => L = L' ∧ H = H' ∧ v = .tuple ⟨[.int .i64 r.1, errV 73 r.2]⟩) := by
 refine ct_outs (O := cat048_repeated.out r) (fun _ _ h => h) ?_
 have hle : H.le H := .refl _
 unfold cat048_repeated.f at he
 refine ct_enter (args := [v0_b, .int .i64 size]) fn_81 rfl nt_81 rfl <| wR rfl <| wA (.int .i64 0) rfl rfl <| wA (errV 73 none) rfl rfl <| wE <| wR rfl <| wM v0_b rfl rfl <| w_d rfl (d_len Tryd.underlying26 rfl h0_b) <| w_d rfl (d_eql rfl rfl) ?_
 refine w_done ?_
 rcases its he with ⟨c1, he⟩ | ⟨c1, he⟩
 ·
  refine w_then rfl (dt c1) <| wR rfl <| w_d rfl (d_iface (v := .int .i64 4) Tryd.underlying73 rfl rfl) <| wA (.int .i64 0) rfl rfl <| wA (errV 73 (some 4)) rfl rfl <| w_done ?_
  obtain rfl := sj he
  refine w_return fn_81 rs_81 (.tmp (v := .int .i64 0) rfl (.tmp (v := errV 73 (some 4)) rfl .nil)) <| ⟨⟨[], rfl⟩, hle, rfl⟩
 ·
  refine w_else rfl (df c1) <| w_skip <| wR rfl <| wM v0_b rfl rfl ?_
  obtain ⟨c2, he⟩ := rq he
  refine w_d rfl (d_index (sz := 1) Tryd.underlying26 sz5 rfl h0_b rfl c2) <| w_d rfl (d_ldint ty5 rfl h0_b c2) <| w_d rfl (d_conv (c := w64 (rd b 0)) Tryd.underlying5 Tryd.underlying3 rfl rfl) <| wM (.int .i64 size) rfl rfl <| w_d rfl (d_mul (c := w64 ((w64 (rd b 0)) * size)) rfl rfl rfl) <| w_d rfl (d_add (c := w64 (1 + (w64 ((w64 (rd b 0)) * size)))) rfl rfl rfl) <| wA (.int .i64 (w64 (1 + (w64 ((w64 (rd b 0)) * size))))) rfl rfl <| wA (errV 73 none) rfl rfl <| w_done ?_
  obtain rfl := sj he
  refine w_return fn_81 rs_81 (.tmp (v := .int .i64 (w64 (1 + (w64 ((w64 (rd b 0)) * size))))) rfl (.tmp (v := errV 73 none) rfl .nil)) <| ⟨⟨[], rfl⟩, hle, rfl⟩
noncomputable def cat048_speeds.C : Code := (Tryd.f82.body).getD .skip
def cat048_speeds.out (r : Int × (Option Int)) (H : Hp) (v : Value) : Prop := v = .tuple ⟨[.int .i64 r.1, errV 73 r.2]⟩
abbrev cat048_speeds.R (H0 : Hp) (L : Items) (r : Int × (Option Int)) := fR H0 L (cat048_speeds.out r)
noncomputable def cat048_speeds.j1 (k : Nat)  (b : List Int) (n : Int) : Option (Int × (Option Int)) := if (0 : Int) ≤ 0 ∧ 0 < (b.length : Int) then (if (iand .u8 (rd b 0) 64) = 0 then (some (n, none)) else (if (b.length : Int) ≤ n then (some (0, some 4)) else (if (0 : Int) ≤ n ∧ n < (b.length : Int) then (some (w64 (n + (w64 (1 + (w64 (6 * (w64 (rd b n))))))), none)) else none))) else none
noncomputable def cat048_speeds.f (k : Nat) (b : List Int) : Option (Int × (Option Int)) := if (b.length : Int) = 0 then (some (0, some 4)) else (if (0 : Int) ≤ 0 ∧ 0 < (b.length : Int) then (if (iand .u8 (rd b 0) 1) = 0 then (if (0 : Int) ≤ 0 ∧ 0 < (b.length : Int) then (if (iand .u8 (rd b 0) 128) = 0 then (cat048_speeds.j1 k b 1) else (cat048_speeds.j1 k b (w64 (1 + 2)))) else none) else (some (0, some 3))) else none)
theorem cat048_speeds.j1_mono {k : Nat} : ∀ y0 y1, LeO (cat048_speeds.j1 k y0 y1) (cat048_speeds.j1 (k + 1) y0 y1) := fun _ _ => (LeO.ite (LeO.ite (LeO.refl _) (LeO.ite (LeO.refl _) (LeO.ite (LeO.refl _) (LeO.refl _)))) (LeO.refl _))
theorem cat048_speeds.mono : ∀ k y0, LeO (cat048_speeds.f k y0) (cat048_speeds.f (k + 1) y0) := fun k _ => by unfold cat048_speeds.f; exact (LeO.ite (LeO.refl _) (LeO.ite (LeO.ite (LeO.ite (LeO.ite (cat048_speeds.j1_mono (k := k)  _ _) (cat048_speeds.j1_mono (k := k)  _ _)) (LeO.refl _)) (LeO.refl _)) (LeO.refl _)))
noncomputable def cat048_speeds.Kj1 : List Item := .code (seqR (seqR (seqR (seqR cat048_speeds.C)))) :: []
theorem cat048_speeds.j1_ok {k : Nat} {H0 H : Hp} {L : Items} {r : Int × (Option Int)} {jk_ : Nat → Value} {b : List Int} {n : Int} {v_b : Value} (hle : H0.le H) (he : cat048_speeds.j1 k b n = some r) (h_b : Src kU8 H L v_b b) : Wp Tryd.prog 82 44 cat048_speeds.Kj1 (upd (upd (upd (upd jk_ 0 (v_b)) 2 (.int .i64 0)) 3 (errV 73 none)) 4 (.int .i64 n)) H (L) (cat048_speeds.R H0 L r) := by
 unfold cat048_speeds.j1 at he
 unfold cat048_speeds.Kj1
 refine w_seq <| wR rfl <| wM v_b rfl rfl ?_
 obtain ⟨c6, he⟩ := rq he
 refine w_d rfl (d_index (sz := 1) Tryd.underlying26 sz5 rfl h_b rfl c6) <| w_d rfl (d_ldint ty5 rfl h_b c6) <| w_d rfl (d_band rfl rfl) <| w_d rfl (d_neq rfl rfl) <| w_done ?_
 rcases its he with ⟨c7, he⟩ | ⟨c7, he⟩
 ·
  refine w_else rfl (nd_t c7) <| w_skip <| wR rfl <| wM (.int .i64 n) rfl rfl <| wA (.int .i64 n) rfl rfl <| wA (errV 73 none) rfl rfl <| w_done ?_
  obtain rfl := sj he
  refine w_return fn_82 rs_82 (.tmp (v := .int .i64 n) rfl (.tmp (v := errV 73 none) rfl .nil)) <| ⟨⟨[], rfl⟩, hle, rfl⟩
 ·
  refine w_then rfl (nd_f c7) <| w_seq <| wR rfl <| wM (.int .i64 n) rfl rfl <| wM v_b rfl rfl <| w_d rfl (d_len Tryd.underlying26 rfl h_b) <| w_d rfl (d_geq rfl rfl) <| w_done ?_
  rcases its he with ⟨c8, he⟩ | ⟨c8, he⟩
  ·
   refine w_then rfl (dt c8) <| wR rfl <| w_d rfl (d_iface (v := .int .i64 4) Tryd.underlying73 rfl rfl) <| wA (.int .i64 0) rfl rfl <| wA (errV 73 (some 4)) rfl rfl <| w_done ?_
   obtain rfl := sj he
   refine w_return fn_82 rs_82 (.tmp (v := .int .i64 0) rfl (.tmp (v := errV 73 (some 4)) rfl .nil)) <| ⟨⟨[], rfl⟩, hle, rfl⟩
  ·
   refine w_else rfl (df c8) <| w_skip <| w_region rfl <| wM (.int .i64 n) rfl rfl <| wM v_b rfl rfl <| wM (.int .i64 n) rfl rfl ?_
   obtain ⟨c9, he⟩ := rq he
   refine w_d rfl (d_index (sz := 1) Tryd.underlying26 sz5 rfl h_b rfl c9) <| w_d rfl (d_ldint ty5 rfl h_b c9) <| w_d rfl (d_conv (c := w64 (rd b n)) Tryd.underlying5 Tryd.underlying3 rfl rfl) <| w_d rfl (d_mul (c := w64 (6 * (w64 (rd b n)))) rfl rfl rfl) <| w_d rfl (d_add (c := w64 (1 + (w64 (6 * (w64 (rd b n)))))) rfl rfl rfl) <| w_d rfl (d_add (c := w64 (n + (w64 (1 + (w64 (6 * (w64 (rd b n)))))))) rfl rfl rfl) <| wA (.int .i64 (w64 (n + (w64 (1 + (w64 (6 * (w64 (rd b n))))))))) rfl rfl <| wQ rfl <| wM (.int .i64 (w64 (n + (w64 (1 + (w64 (6 * (w64 (rd b n))))))))) rfl rfl <| wA (.int .i64 (w64 (n + (w64 (1 + (w64 (6 * (w64 (rd b n))))))))) rfl rfl ?_
   refine wA (errV 73 none) rfl rfl <| w_done ?_
   obtain rfl := sj he
   refine w_return fn_82 rs_82 (.tmp (v := .int .i64 (w64 (n + (w64 (1 + (w64 (6 * (w64 (rd b n))))))))) rfl (.tmp (v := errV 73 none) rfl .nil)) <| ⟨⟨[], rfl⟩, hle, rfl⟩
theorem cat048_speeds.calls (k : Nat) {H : Hp} {L : Items} {b : List Int} {v0_b : Value} {r : Int × (Option Int)} (he : cat048_speeds.f k b = some r) (h0_b : Src kU8 H L v0_b b) : Ct Tryd.prog 82 ⟨[v0_b]⟩ H L (fun v H' L' => L = L' ∧ H = H' ∧ v = .tuple ⟨[.int .i64 r.1, errV 73 r.2]⟩) := by
 refine ct_outs (O := cat048_speeds.out r) (fun _ _ h => h) ?_
 have hle : H.le H := .refl _
 unfold cat048_speeds.f at he
 refine ct_enter (args := [v0_b]) fn_82 rfl nt_82 rfl <| wR rfl <| wA (.int .i64 0) rfl rfl <| wA (errV 73 none) rfl rfl <| wE <| w_block <| wR rfl <| wM v0_b rfl rfl <| w_d rfl (d_len Tryd.underlying26 rfl h0_b) ?_
 refine w_d rfl (d_eql rfl rfl) <| wA (.bool (decide ((b.length : Int) = 0))) rfl rfl <| w_done ?_
 rcases its he with ⟨c1, he⟩ | ⟨c1, he⟩
 ·
  refine w_then rfl (dt c1) <| wR rfl <| w_d rfl (d_iface (v := .int .i64 4) Tryd.underlying73 rfl rfl) <| wA (.int .i64 0) rfl rfl <| wA (errV 73 (some 4)) rfl rfl <| w_done ?_
  obtain rfl := sj he
  refine w_return fn_82 rs_82 (.tmp (v := .int .i64 0) rfl (.tmp (v := errV 73 (some 4)) rfl .nil)) <| ⟨⟨[], rfl⟩, hle, rfl⟩
 ·
  refine w_else rfl (df c1) <| wR rfl <| wM v0_b rfl rfl ?_
  obtain ⟨c2, he⟩ := rq he
  refine w_d rfl (d_index (sz := 1) Tryd.underlying26 sz5 rfl h0_b rfl c2) <| w_d rfl (d_ldint ty5 rfl h0_b c2) <| w_d rfl (d_band rfl rfl) <| w_d rfl (d_neq rfl rfl) <| wA (.bool (!decide ((iand .u8 (rd b 0) 1) = 0))) rfl rfl <| w_done ?_
  rcases its he with ⟨c3, he⟩ | ⟨c3, he⟩
  ·
   refine w_else rfl (nd_t c3) <| w_skip <| w_inBlock <| wR rfl <| wA (.int .i64 1) rfl rfl <| wE <| wR rfl <| wM v0_b rfl rfl ?_
   obtain ⟨c4, he⟩ := rq he
   refine w_d rfl (d_index (sz := 1) Tryd.underlying26 sz5 rfl h0_b rfl c4) <| w_d rfl (d_ldint ty5 rfl h0_b c4) <| w_d rfl (d_band rfl rfl) <| w_d rfl (d_neq rfl rfl) <| w_done ?_
   rcases its he with ⟨c5, he⟩ | ⟨c5, he⟩
   ·
    refine w_else rfl (nd_t c5) <| w_skip <| w_sl 0 (v0_b) rfl <| w_sl 2 (.int .i64 0) rfl <| w_sl 3 (errV 73 none) rfl <| w_sl 4 (.int .i64 1) rfl <| cat048_speeds.j1_ok (k := k) hle he h0_b
   ·
    refine w_then rfl (nd_f c5) <| w_region rfl <| wM (.int .i64 1) rfl rfl <| w_d rfl (d_add (c := w64 (1 + 2)) rfl rfl rfl) <| wA (.int .i64 (w64 (1 + 2))) rfl rfl <| w_done <| w_sl 0 (v0_b) rfl <| w_sl 2 (.int .i64 0) rfl <| w_sl 3 (errV 73 none) rfl <| w_sl 4 (.int .i64 (w64 (1 + 2))) rfl <| cat048_speeds.j1_ok (k := k) hle he h0_b
  ·
   refine w_then rfl (nd_f c3) <| wR rfl <| w_d rfl (d_iface (v := .int .i64 3) Tryd.underlying73 rfl rfl) <| wA (.int .i64 0) rfl rfl <| wA (errV 73 (some 3)) rfl rfl <| w_done ?_
   obtain rfl := sj he
   refine w_return fn_82 rs_82 (.tmp (v := .int .i64 0) rfl (.tmp (v := errV 73 (some 3)) rfl .nil)) <| ⟨⟨[], rfl⟩, hle, rfl⟩
noncomputable def cat048_told.C : Code := (Tryd.f83.body).getD .skip
def cat048_told.out (r : Int × (Option Int)) (H : Hp) (v : Value) : Prop := v = .tuple ⟨[.int .i64 r.1, errV 73 r.2]⟩
noncomputable def cat048_told.f (k : Nat) (b : List Int) : Option (Int × (Option Int)) := if (b.length : Int) = 0 then (some (0, some 4)) else (if (0 : Int) ≤ 0 ∧ 0 < (b.length : Int) then (if (rd b 0) = 0 then (some (0, some 3)) else (if (0 : Int) ≤ 0 ∧ 0 < (b.length : Int) then (some (w64 (rd b 0), none)) else none)) else none)
theorem cat048_told.mono : ∀ k y0, LeO (cat048_told.f k y0) (cat048_told.f (k + 1) y0) := fun k _ => by unfold cat048_told.f; exact (LeO.ite (LeO.refl _) (LeO.ite (LeO.ite (LeO.refl _) (LeO.ite (LeO.refl _) (LeO.refl _))) (LeO.refl _)))
theorem cat048_told.calls (k : Nat) {H : Hp} {L : Items} {b : List Int} {v0_b : Value} {r : Int × (Option Int)} (he : cat048_told.f k b = some r) (h0_b : Src kU8 H L v0_b b) : Ct Tryd.prog 83 ⟨[v0_b]⟩ H L (fun v H' L' => L = L' ∧ H = H' ∧ v = .tuple ⟨[.int .i64 r.1, errV 73 r.2]⟩) := by
 refine ct_outs (O := cat048_told.out r) (fun _ _ h => h) ?_
 have hle : H.le H := .refl _
 unfold cat048_told.f at he
 refine ct_enter (args := [v0_b]) fn_83 rfl nt_83 rfl <| wR rfl <| wA (.int .i64 0) rfl rfl <| wA (errV 73 none) rfl rfl <| wE <| w_block <| wR rfl <| wM v0_b rfl rfl <| w_d rfl (d_len Tryd.underlying26 rfl h0_b) ?_
 refine w_d rfl (d_eql rfl rfl) <| wA (.bool (decide ((b.length : Int) = 0))) rfl rfl <| w_done ?_
 rcases its he with ⟨c1, he⟩ | ⟨c1, he⟩
 ·
  refine w_then rfl (dt c1) <| wR rfl <| w_d rfl (d_iface (v := .int .i64 4) Tryd.underlying73 rfl rfl) <| wA (.int .i64 0) rfl rfl <| wA (errV 73 (some 4)) rfl rfl <| w_done ?_
  obtain rfl := sj he
  refine w_return fn_83 rs_83 (.tmp (v := .int .i64 0) rfl (.tmp (v := errV 73 (some 4)) rfl .nil)) <| ⟨⟨[], rfl⟩, hle, rfl⟩
 ·
  refine w_else rfl (df c1) <| wR rfl <| wM v0_b rfl rfl ?_
  obtain ⟨c2, he⟩ := rq he
  refine w_d rfl (d_index (sz := 1) Tryd.underlying26 sz5 rfl h0_b rfl c2) <| w_d rfl (d_ldint ty5 rfl h0_b c2) <| w_d rfl (d_eql rfl rfl) <| wA (.bool (decide ((rd b 0) = 0))) rfl rfl <| w_done ?_
  rcases its he with ⟨c3, he⟩ | ⟨c3, he⟩
  ·
   refine w_then rfl (dt c3) <| wR rfl <| w_d rfl (d_iface (v := .int .i64 3) Tryd.underlying73 rfl rfl) <| wA (.int .i64 0) rfl rfl <| wA (errV 73 (some 3)) rfl rfl <| w_done ?_
   obtain rfl := sj he
   refine w_return fn_83 rs_83 (.tmp (v := .int .i64 0) rfl (.tmp (v := errV 73 (some 3)) rfl .nil)) <| ⟨⟨[], rfl⟩, hle, rfl⟩
  ·
   refine w_else rfl (df c3) <| w_skip <| w_inBlock <| wR rfl <| wM v0_b rfl rfl ?_
   obtain ⟨c4, he⟩ := rq he
   refine w_d rfl (d_index (sz := 1) Tryd.underlying26 sz5 rfl h0_b rfl c4) <| w_d rfl (d_ldint ty5 rfl h0_b c4) <| w_d rfl (d_conv (c := w64 (rd b 0)) Tryd.underlying5 Tryd.underlying3 rfl rfl) <| wA (.int .i64 (w64 (rd b 0))) rfl rfl <| wA (errV 73 none) rfl rfl <| w_done ?_
   obtain rfl := sj he
   refine w_return fn_83 rs_83 (.tmp (v := .int .i64 (w64 (rd b 0))) rfl (.tmp (v := errV 73 none) rfl .nil)) <| ⟨⟨[], rfl⟩, hle, rfl⟩
noncomputable def cat048_variable.C : Code := (Tryd.f64.body).getD .skip
def cat048_variable.out (r : Int × (Option Int)) (H : Hp) (v : Value) : Prop := v = .tuple ⟨[.int .i64 r.1, errV 73 r.2]⟩
abbrev cat048_variable.R (H0 : Hp) (L : Items) (r : Int × (Option Int)) := fR H0 L (cat048_variable.out r)
noncomputable def cat048_variable.j1 (k : Nat)  (b : List Int) (t6 : Int) (t7 : Bool) : Option (Int × (Option Int)) := if t7 = true then ((cat048_chain.f k b).bind fun y4 => some (y4.1, y4.2)) else (if t6 = 7 then ((cat048_ones.f k b).bind fun y9 => some (y9.1, y9.2)) else (if t6 = 10 then ((cat048_repeated.f k b 8).bind fun y14 => some (y14.1, y14.2)) else (if t6 = 20 then ((cat048_speeds.f k b).bind fun y19 => some (y19.1, y19.2)) else ((cat048_told.f k b).bind fun y23 => some (y23.1, y23.2)))))
noncomputable def cat048_variable.f (k : Nat) (item : Int) (b : List Int) : Option (Int × (Option Int)) := if item = 3 then (cat048_variable.j1 k b item (decide (item = 3))) else (if item = 14 then (cat048_variable.j1 k b item (decide (item = 14))) else (cat048_variable.j1 k b item (decide (item = 16))))
theorem cat048_variable.j1_mono {k : Nat} : ∀ y0 y1 y2, LeO (cat048_variable.j1 k y0 y1 y2) (cat048_variable.j1 (k + 1) y0 y1 y2) := fun _ _ _ => (LeO.ite (LeO.bind (cat048_chain.mono k _) fun _ => LeO.refl _) (LeO.ite (LeO.bind (cat048_ones.mono k _) fun _ => LeO.refl _) (LeO.ite (LeO.bind (cat048_repeated.mono k _ _) fun _ => LeO.refl _) (LeO.ite (LeO.bind (cat048_speeds.mono k _) fun _ => LeO.refl _) (LeO.bind (cat048_told.mono k _) fun _ => LeO.refl _)))))
theorem cat048_variable.mono : ∀ k y0 y1, LeO (cat048_variable.f k y0 y1) (cat048_variable.f (k + 1) y0 y1) := fun k _ _ => by unfold cat048_variable.f; exact (LeO.ite (cat048_variable.j1_mono (k := k)  _ _ _) (LeO.ite (cat048_variable.j1_mono (k := k)  _ _ _) (cat048_variable.j1_mono (k := k)  _ _ _)))
noncomputable def cat048_variable.Kj1 : List Item := .code (seqR (blkB (seqR (seqL (seqR cat048_variable.C))))) :: .inBlock 0 :: .code (seqR (seqR cat048_variable.C)) :: []
theorem cat048_variable.j1_ok {k : Nat} {H0 H : Hp} {L : Items} {r : Int × (Option Int)} {jk_ : Nat → Value} {b : List Int} {t6 : Int} {t7 : Bool} {v_b : Value} (hle : H0.le H) (he : cat048_variable.j1 k b t6 t7 = some r) (h_b : Src kU8 H L v_b b) : Wp Tryd.prog 64 37 cat048_variable.Kj1 (upd (upd (upd (upd (upd jk_ 1 (v_b)) 4 (.int .i64 0)) 5 (errV 73 none)) 6 (.int .i64 t6)) 7 (.bool t7)) H (L) (cat048_variable.R H0 L r) := by
 unfold cat048_variable.j1 at he
 unfold cat048_variable.Kj1
 rcases its he with ⟨c3, he⟩ | ⟨c3, he⟩
 ·
  refine w_then rfl c3 <| wR rfl <| wM v_b rfl rfl ?_
  obtain ⟨y4, hy5, he⟩ := bs he
  refine w_d rfl (call_d (o_call co79 (vs := [v_b]) rfl (cat048_chain.calls k hy5 h_b))) <| w_d rfl (d_ext (vs := [.int .i64 y4.1, errV 73 y4.2]) rfl rfl) <| w_d rfl (d_ext (vs := [.int .i64 y4.1, errV 73 y4.2]) rfl rfl) <| wA (.int .i64 y4.1) rfl rfl <| wA (errV 73 y4.2) rfl rfl <| w_done ?_
  obtain rfl := sj he
  refine w_return fn_64 rs_64 (.tmp (v := .int .i64 y4.1) rfl (.tmp (v := errV 73 y4.2) rfl .nil)) <| ⟨⟨[], rfl⟩, hle, rfl⟩
 ·
  refine w_else rfl (Bool.eq_false_iff.2 c3) <| wR rfl <| w_d rfl (d_eql rfl rfl) <| wA (.bool (decide (t6 = 7))) rfl rfl <| w_done ?_
  rcases its he with ⟨c8, he⟩ | ⟨c8, he⟩
  ·
   refine w_then rfl (dt c8) <| wR rfl <| wM v_b rfl rfl ?_
   obtain ⟨y9, hy10, he⟩ := bs he
   refine w_d rfl (call_d (o_call co80 (vs := [v_b]) rfl (cat048_ones.calls k hy10 h_b))) <| w_d rfl (d_ext (vs := [.int .i64 y9.1, errV 73 y9.2]) rfl rfl) <| w_d rfl (d_ext (vs := [.int .i64 y9.1, errV 73 y9.2]) rfl rfl) <| wA (.int .i64 y9.1) rfl rfl <| wA (errV 73 y9.2) rfl rfl <| w_done ?_
   obtain rfl := sj he
   refine w_return fn_64 rs_64 (.tmp (v := .int .i64 y9.1) rfl (.tmp (v := errV 73 y9.2) rfl .nil)) <| ⟨⟨[], rfl⟩, hle, rfl⟩
  ·
   refine w_else rfl (df c8) <| wR rfl <| w_d rfl (d_eql rfl rfl) <| wA (.bool (decide (t6 = 10))) rfl rfl <| w_done ?_
   rcases its he with ⟨c13, he⟩ | ⟨c13, he⟩
   ·
    refine w_then rfl (dt c13) <| wR rfl <| wM v_b rfl rfl ?_
    obtain ⟨y14, hy15, he⟩ := bs he
    refine w_d rfl (call_d (o_call co81 (vs := [v_b, .int .i64 8]) rfl (cat048_repeated.calls k hy15 h_b))) <| w_d rfl (d_ext (vs := [.int .i64 y14.1, errV 73 y14.2]) rfl rfl) <| w_d rfl (d_ext (vs := [.int .i64 y14.1, errV 73 y14.2]) rfl rfl) <| wA (.int .i64 y14.1) rfl rfl <| wA (errV 73 y14.2) rfl rfl <| w_done ?_
    obtain rfl := sj he
    refine w_return fn_64 rs_64 (.tmp (v := .int .i64 y14.1) rfl (.tmp (v := errV 73 y14.2) rfl .nil)) <| ⟨⟨[], rfl⟩, hle, rfl⟩
   ·
    refine w_else rfl (df c13) <| wR rfl <| w_d rfl (d_eql rfl rfl) <| wA (.bool (decide (t6 = 20))) rfl rfl <| w_done ?_
    rcases its he with ⟨c18, he⟩ | ⟨c18, he⟩
    ·
     refine w_then rfl (dt c18) <| wR rfl <| wM v_b rfl rfl ?_
     obtain ⟨y19, hy20, he⟩ := bs he
     refine w_d rfl (call_d (o_call co82 (vs := [v_b]) rfl (cat048_speeds.calls k hy20 h_b))) <| w_d rfl (d_ext (vs := [.int .i64 y19.1, errV 73 y19.2]) rfl rfl) <| w_d rfl (d_ext (vs := [.int .i64 y19.1, errV 73 y19.2]) rfl rfl) <| wA (.int .i64 y19.1) rfl rfl <| wA (errV 73 y19.2) rfl rfl <| w_done ?_
     obtain rfl := sj he
     refine w_return fn_64 rs_64 (.tmp (v := .int .i64 y19.1) rfl (.tmp (v := errV 73 y19.2) rfl .nil)) <| ⟨⟨[], rfl⟩, hle, rfl⟩
    ·
     refine w_else rfl (df c18) <| w_skip <| w_inBlock <| wR rfl <| wM v_b rfl rfl ?_
     obtain ⟨y23, hy24, he⟩ := bs he
     refine w_d rfl (call_d (o_call co83 (vs := [v_b]) rfl (cat048_told.calls k hy24 h_b))) <| w_d rfl (d_ext (vs := [.int .i64 y23.1, errV 73 y23.2]) rfl rfl) <| w_d rfl (d_ext (vs := [.int .i64 y23.1, errV 73 y23.2]) rfl rfl) <| wA (.int .i64 y23.1) rfl rfl <| wA (errV 73 y23.2) rfl rfl <| w_done ?_
     obtain rfl := sj he
     refine w_return fn_64 rs_64 (.tmp (v := .int .i64 y23.1) rfl (.tmp (v := errV 73 y23.2) rfl .nil)) <| ⟨⟨[], rfl⟩, hle, rfl⟩
theorem cat048_variable.calls (k : Nat) {H : Hp} {L : Items} {item : Int} {b : List Int} {v0_b : Value} {r : Int × (Option Int)} (he : cat048_variable.f k item b = some r) (h0_b : Src kU8 H L v0_b b) : Ct Tryd.prog 64 ⟨[.int .i64 item, v0_b]⟩ H L (fun v H' L' => L = L' ∧ H = H' ∧ v = .tuple ⟨[.int .i64 r.1, errV 73 r.2]⟩) := by
 refine ct_outs (O := cat048_variable.out r) (fun _ _ h => h) ?_
 have hle : H.le H := .refl _
 unfold cat048_variable.f at he
 refine ct_enter (args := [.int .i64 item, v0_b]) fn_64 rfl nt_64 rfl <| wR rfl <| wA (.int .i64 0) rfl rfl <| wA (errV 73 none) rfl rfl <| wE <| wR rfl <| wM (.int .i64 item) rfl rfl <| w_done <| w_block ?_
 refine w_seq <| wR rfl <| w_d rfl (d_eql rfl rfl) <| wA (.bool (decide (item = 3))) rfl rfl <| w_done ?_
 rcases its he with ⟨c1, he⟩ | ⟨c1, he⟩
 ·
  refine w_then rfl (dt c1) <| w_skip <| w_sl 1 (v0_b) rfl <| w_sl 4 (.int .i64 0) rfl <| w_sl 5 (errV 73 none) rfl <| w_sl 6 (.int .i64 item) rfl <| w_sl 7 (.bool (decide (item = 3))) rfl <| cat048_variable.j1_ok (k := k) hle he h0_b
 ·
  refine w_else rfl (df c1) <| wR rfl <| w_d rfl (d_eql rfl rfl) <| wA (.bool (decide (item = 14))) rfl rfl <| w_done ?_
  rcases its he with ⟨c2, he⟩ | ⟨c2, he⟩
  ·
   refine w_then rfl (dt c2) <| w_skip <| w_sl 1 (v0_b) rfl <| w_sl 4 (.int .i64 0) rfl <| w_sl 5 (errV 73 none) rfl <| w_sl 6 (.int .i64 item) rfl <| w_sl 7 (.bool (decide (item = 14))) rfl <| cat048_variable.j1_ok (k := k) hle he h0_b
  ·
   refine w_else rfl (df c2) <| w_region rfl <| w_d rfl (d_eql rfl rfl) <| wA (.bool (decide (item = 16))) rfl rfl <| w_done <| w_sl 1 (v0_b) rfl <| w_sl 4 (.int .i64 0) rfl <| w_sl 5 (errV 73 none) rfl <| w_sl 6 (.int .i64 item) rfl <| w_sl 7 (.bool (decide (item = 16))) rfl <| cat048_variable.j1_ok (k := k) hle he h0_b
noncomputable def cat048_Size.C : Code := (Tryd.f45.body).getD .skip
def cat048_Size.out (r : Int × (Option Int)) (H : Hp) (v : Value) : Prop := v = .tuple ⟨[.int .i64 r.1, errV 73 r.2]⟩
abbrev cat048_Size.R (H0 : Hp) (L : Items) (r : Int × (Option Int)) := fR H0 L (cat048_Size.out r)
noncomputable def cat048_Size.j1 (k : Nat)  (b : List Int) (t4 : Int) (t5 : Option Int) (n : Int) : Option (Int × (Option Int)) := if (b.length : Int) < n then (some (0, some 4)) else (some (n, none))
noncomputable def cat048_Size.f (k : Nat) (item : Int) (b : List Int) : Option (Int × (Option Int)) := if ((decide (item < 1)) || (decide (28 < item))) = true then (some (0, some 1)) else ((cat048_fixed.f k item).bind fun y4 => if y4 = 0 then ((cat048_variable.f k item b).bind fun y9 => if y9.2.isSome = true then (some (0, y9.2)) else (cat048_Size.j1 k b 0 none y9.1)) else (cat048_Size.j1 k b 0 none y4))
theorem cat048_Size.j1_mono {k : Nat} : ∀ y0 y1 y2 y3, LeO (cat048_Size.j1 k y0 y1 y2 y3) (cat048_Size.j1 (k + 1) y0 y1 y2 y3) := fun _ _ _ _ => (LeO.ite (LeO.refl _) (LeO.refl _))
theorem cat048_Size.mono : ∀ k y0 y1, LeO (cat048_Size.f k y0 y1) (cat048_Size.f (k + 1) y0 y1) := fun k _ _ => by unfold cat048_Size.f; exact (LeO.ite (LeO.refl _) (LeO.bind (cat048_fixed.mono k _) fun _ => LeO.ite (LeO.bind (cat048_variable.mono k _ _) fun _ => LeO.ite (LeO.refl _) (cat048_Size.j1_mono (k := k)  _ _ _ _)) (cat048_Size.j1_mono (k := k)  _ _ _ _)))
noncomputable def cat048_Size.Kj1 : List Item := .code (seqR (seqR (seqR (seqR cat048_Size.C)))) :: []
theorem cat048_Size.j1_ok {k : Nat} {H0 H : Hp} {L : Items} {r : Int × (Option Int)} {jk_ : Nat → Value} {b : List Int} {t4 : Int} {t5 : Option Int} {n : Int} {v_b : Value} (hle : H0.le H) (he : cat048_Size.j1 k b t4 t5 n = some r) (h_b : Src kU8 H L v_b b) : Wp Tryd.prog 45 36 cat048_Size.Kj1 (upd (upd (upd (upd jk_ 1 (v_b)) 4 (.int .i64 t4)) 5 (errV 73 t5)) 6 (.int .i64 n)) H (L) (cat048_Size.R H0 L r) := by
 unfold cat048_Size.j1 at he
 unfold cat048_Size.Kj1
 refine w_seq <| wR rfl <| wM (.int .i64 n) rfl rfl <| wM v_b rfl rfl <| w_d rfl (d_len Tryd.underlying26 rfl h_b) <| w_d rfl (d_gtr rfl rfl) <| w_done ?_
 rcases its he with ⟨c14, he⟩ | ⟨c14, he⟩
 ·
  refine w_then rfl (dt c14) <| wR rfl <| w_d rfl (d_iface (v := .int .i64 4) Tryd.underlying73 rfl rfl) <| wA (.int .i64 0) rfl rfl <| wA (errV 73 (some 4)) rfl rfl <| w_done ?_
  obtain rfl := sj he
  refine w_return fn_45 rs_45 (.tmp (v := .int .i64 0) rfl (.tmp (v := errV 73 (some 4)) rfl .nil)) <| ⟨⟨[], rfl⟩, hle, rfl⟩
 ·
  refine w_else rfl (df c14) <| w_skip <| wR rfl <| wM (.int .i64 n) rfl rfl <| wA (.int .i64 n) rfl rfl <| wA (errV 73 none) rfl rfl <| w_done ?_
  obtain rfl := sj he
  refine w_return fn_45 rs_45 (.tmp (v := .int .i64 n) rfl (.tmp (v := errV 73 none) rfl .nil)) <| ⟨⟨[], rfl⟩, hle, rfl⟩
theorem cat048_Size.calls (k : Nat) {H : Hp} {L : Items} {item : Int} {b : List Int} {v0_b : Value} {r : Int × (Option Int)} (he : cat048_Size.f k item b = some r) (h0_b : Src kU8 H L v0_b b) : Ct Tryd.prog 45 ⟨[.int .i64 item, v0_b]⟩ H L (fun v H' L' => L = L' ∧ H = H' ∧ v = .tuple ⟨[.int .i64 r.1, errV 73 r.2]⟩) := by
 refine ct_outs (O := cat048_Size.out r) (fun _ _ h => h) ?_
 have hle : H.le H := .refl _
 unfold cat048_Size.f at he
 refine ct_enter (args := [.int .i64 item, v0_b]) fn_45 rfl nt_45 rfl <| wR rfl <| wA (.int .i64 0) rfl rfl <| wA (errV 73 none) rfl rfl <| wE <| wR rfl <| wM (.int .i64 item) rfl rfl <| w_d rfl (d_lss rfl rfl) <| wM (.bool (decide (item < 1))) rfl rfl ?_
 refine w_g (g := !(decide (item < 1))) rfl rfl rfl wn_f (fun g1 => d_move (v := .int .i64 item) rfl) <| w_g (g := !(decide (item < 1))) rfl rfl rfl wn_f (fun g2 => d_gtr (cvt g2) rfl) <| w_d rfl (d_or' (b := (decide (item < 1))) (p := (decide (28 < item))) rfl rfl rfl) <| w_done ?_
 rcases its he with ⟨c3, he⟩ | ⟨c3, he⟩
 ·
  refine w_then rfl c3 <| wR rfl <| w_d rfl (d_iface (v := .int .i64 1) Tryd.underlying73 rfl rfl) <| wA (.int .i64 0) rfl rfl <| wA (errV 73 (some 1)) rfl rfl <| w_done ?_
  obtain rfl := sj he
  refine w_return fn_45 rs_45 (.tmp (v := .int .i64 0) rfl (.tmp (v := errV 73 (some 1)) rfl .nil)) <| ⟨⟨[], rfl⟩, hle, rfl⟩
 ·
  refine w_else rfl (Bool.eq_false_iff.2 c3) <| w_skip <| wR rfl <| wM (.int .i64 item) rfl rfl ?_
  obtain ⟨y4, hy5, he⟩ := bs he
  refine w_d rfl (call_d (o_call co63 (vs := [.int .i64 item]) rfl (cat048_fixed.calls k hy5))) <| wA (.int .i64 y4) rfl rfl <| wE <| wR rfl <| wM (.int .i64 y4) rfl rfl <| w_d rfl (d_eql rfl rfl) <| w_done ?_
  rcases its he with ⟨c8, he⟩ | ⟨c8, he⟩
  ·
   refine w_then rfl (dt c8) <| wR rfl <| wM (.int .i64 item) rfl rfl <| wM v0_b rfl rfl ?_
   obtain ⟨y9, hy10, he⟩ := bs he
   refine w_d rfl (call_d (o_call co64 (vs := [.int .i64 item, v0_b]) rfl (cat048_variable.calls k hy10 h0_b))) <| wM (.tuple ⟨[.int .i64 y9.1, errV 73 y9.2]⟩) rfl rfl <| w_d rfl (d_ext (vs := [.int .i64 y9.1, errV 73 y9.2]) rfl rfl) <| w_d rfl (d_ext (vs := [.int .i64 y9.1, errV 73 y9.2]) rfl rfl) <| wA (.int .i64 y9.1) rfl rfl <| wA (errV 73 y9.2) rfl rfl <| wE <| wR rfl <| wM (errV 73 y9.2) rfl rfl <| w_d rfl (d_nenil (e := y9.2) Tryd.underlying28 rfl) ?_
   refine w_done ?_
   rcases its he with ⟨c13, he⟩ | ⟨c13, he⟩
   ·
    refine w_then rfl c13 <| wR rfl <| wM (errV 73 y9.2) rfl rfl <| wA (.int .i64 0) rfl rfl <| wA (errV 73 y9.2) rfl rfl <| w_done ?_
    obtain rfl := sj he
    refine w_return fn_45 rs_45 (.tmp (v := .int .i64 0) rfl (.tmp (v := errV 73 y9.2) rfl .nil)) <| ⟨⟨[], rfl⟩, hle, rfl⟩
   ·
    refine w_else rfl (Bool.eq_false_iff.2 c13) <| w_skip <| w_region rfl <| wM (.int .i64 y9.1) rfl rfl <| wA (.int .i64 y9.1) rfl rfl <| w_done <| w_sl 1 (v0_b) rfl <| w_sl 4 (.int .i64 0) rfl <| w_sl 5 (errV 73 none) rfl <| w_sl 6 (.int .i64 y9.1) rfl <| cat048_Size.j1_ok (k := k) hle he h0_b
  ·
   refine w_else rfl (df c8) <| w_skip <| w_sl 1 (v0_b) rfl <| w_sl 4 (.int .i64 0) rfl <| w_sl 5 (errV 73 none) rfl <| w_sl 6 (.int .i64 y4) rfl <| cat048_Size.j1_ok (k := k) hle he h0_b
end Go.Proofs.YtlokgnjlnefbbaaDoor.GCB

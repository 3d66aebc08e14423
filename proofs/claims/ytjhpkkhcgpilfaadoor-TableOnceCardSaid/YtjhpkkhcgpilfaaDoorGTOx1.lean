/- A text of this session, written by a program (wip/k/gen.py): Go functions as Lean functions, and proofs that the code comes to them. -/
import Derived.Test.YtjhpkkhcgpilfaaDoorGTOx0
namespace Go.Proofs.YtjhpkkhcgpilfaaDoor.GTO
open Go Go.RowKit Go.Proofs.YtjhpkkhcgpilfaaDoorK Go.Proofs.YtjhpkkhcgpilfaaDoor
set_option maxRecDepth 100000
set_option maxHeartbeats 2000000
set_option linter.unusedVariables false
set_option linter.unusedSimpArgs false
/-! ### (*radome/table.Table).Begin -/
noncomputable def table_Table_Begin.C : Code := (Tryd.f32.body).getD .skip
def table_Table_Begin.out (b_t : Nat) (its_ : Items) (r : Int × (Option Int) × table_Table) (H : Hp) (v : Value) : Prop := ∃ b0 : Nat, ∃ v1 : Value, ∃ i1 : Item', v = .tuple ⟨[.int .i64 r.1, errV 106 r.2.1]⟩ ∧ its_ = [some (b_t, .cells ⟨[.int .i64 r.2.2.f_rule.f_Hits, .int .i64 r.2.2.f_rule.f_Window, .int .i64 r.2.2.f_rule.f_Misses, .int .i64 r.2.2.f_most, .pointer (some ⟨b0, 0, none⟩), v1]⟩ 135 (0, 0)), some (b0, .cells ⟨[.int .i64 r.2.2.f_names.f_from, .int .i64 r.2.2.f_names.f_to, .int .i64 r.2.2.f_names.f_given.f_v]⟩ 113 (0, 0)), i1] ∧ Sl k_table_Track H 78 i1 v1 r.2.2.f_l
abbrev table_Table_Begin.R (b_t : Nat) (H0 : Hp) (L : Items) (r : Int × (Option Int) × table_Table) : Value → Hp → Items → Prop := fun v H' L' => ∃ p its_, L' = p ++ (its_ ++ L) ∧ H0.le H' ∧ table_Table_Begin.out b_t its_ r H' v
noncomputable def table_Table_Begin.f (k : Nat) (t : table_Table) (m : imm_Imm) (time : Int) : Option (Int × (Option Int) × table_Table) := if time < 0 then (some (0, some 1, t)) else (if t.f_most ≤ (t.f_l.length : Int) then (some (0, some 10, t)) else ((life_Born.f k t.f_rule).bind fun y8 => if y8.2.isSome = true then (some (0, y8.2, t)) else ((names_Names_Next.f k t.f_names).bind fun y14 => if y14.2.1.isSome = true then (some (0, y14.2.1, (⟨t.f_rule, t.f_most, y14.2.2, t.f_l⟩ : table_Table))) else ((life_Gone.f k y8.1).bind fun y19 => if (!y19) = true then ((table_own.f k m).bind fun y24 => if t.f_l.length + [(⟨y14.1, y8.1, y24, time⟩ : table_Track)].length ≤ 1466015503573 then (some (y14.1, none, (⟨t.f_rule, t.f_most, y14.2.2, t.f_l ++ [(⟨y14.1, y8.1, y24, time⟩ : table_Track)]⟩ : table_Table))) else none) else (some (y14.1, none, (⟨t.f_rule, t.f_most, y14.2.2, t.f_l⟩ : table_Table)))))))
theorem table_Table_Begin.mono : ∀ k y0 y1 y2, LeO (table_Table_Begin.f k y0 y1 y2) (table_Table_Begin.f (k + 1) y0 y1 y2) := fun k _ _ _ => by unfold table_Table_Begin.f; exact (LeO.ite (LeO.refl _) (LeO.ite (LeO.refl _) (LeO.bind (life_Born.mono k _) fun _ => LeO.ite (LeO.refl _) (LeO.bind (names_Names_Next.mono k _) fun _ => LeO.ite (LeO.refl _) (LeO.bind (life_Gone.mono k _) fun _ => LeO.ite (LeO.bind (table_own.mono k _) fun _ => LeO.ite (LeO.refl _) (LeO.refl _)) (LeO.refl _))))))
theorem table_Table_Begin.calls (k : Nat) {H : Hp} {L : Items} {t : table_Table} {m : imm_Imm} {time : Int} {b_t : Nat} {v0_t : Value} {i0_t : Item'} {v1_m : Value} {v2_m : Value} {b_t_q0 : Nat} {r : Int × (Option Int) × table_Table} (he : table_Table_Begin.f k t m time = some r) (h0_t : Sl k_table_Track H 78 i0_t v0_t t.f_l) (h1_m : Ro k_predict_State H v1_m m.f_States) (h2_m : Ro (Kd.int .i64) H v2_m m.f_Chances) : Ct Tryd.prog 32 ⟨[.pointer (some ⟨b_t, 0, none⟩), .agg ⟨[v1_m, v2_m]⟩, .int .i64 time]⟩ H (some (b_t, .cells ⟨[.int .i64 t.f_rule.f_Hits, .int .i64 t.f_rule.f_Window, .int .i64 t.f_rule.f_Misses, .int .i64 t.f_most, .pointer (some ⟨b_t_q0, 0, none⟩), v0_t]⟩ 135 (0, 0)) :: some (b_t_q0, .cells ⟨[.int .i64 t.f_names.f_from, .int .i64 t.f_names.f_to, .int .i64 t.f_names.f_given.f_v]⟩ 113 (0, 0)) :: i0_t :: L) (fun v H' L' => ∃ its_, L' = its_ ++ L ∧ H.le H' ∧ table_Table_Begin.out b_t its_ r H' v) := by
 refine ct_ptr ?_
 have hle : H.le H := .refl _
 unfold table_Table_Begin.f at he
 refine ct_enter (args := [_, _, _]) fn_32 rfl nt_32 rfl <| w_seq <| w_region rfl <| w_a rfl (o_box (v := .agg ⟨[v1_m, v2_m]⟩) rfl rfl) ?_
 rintro _ _ _ ⟨b1, rfl, rfl, rfl⟩
 refine w_d rfl (d_assign (v := .int .i64 0) rfl) <| w_d rfl (d_assign (v := errV 106 none) rfl) <| w_done <| w_seq <| w_block <| w_seq <| w_region rfl <| w_d rfl (d_move (v := .pointer (some ⟨b_t, 0, none⟩)) rfl) <| w_d rfl (d_eqptr (a := (some ⟨b_t, 0, none⟩)) Tryd.underlying56 rfl rfl) <| w_d rfl (d_move (v := .bool false) rfl) <| w_g (g := true) rfl rfl rfl rfl (fun _ => d_move (v := .int .i64 time) rfl) <| w_g (g := true) rfl rfl rfl rfl (fun _ => d_lss rfl rfl) ?_
 refine w_d rfl (d_pickf (v := .bool (decide (time < 0))) rfl rfl) <| w_d rfl (d_assign (v := .bool (decide (time < 0))) rfl) <| w_done ?_
 rcases its he with ⟨c4, he⟩ | ⟨c4, he⟩
 ·
  refine w_then rfl (decide_eq_true c4) <| w_seq <| w_region rfl <| w_d rfl (d_iface (v := .int .i64 1) Tryd.underlying106 rfl rfl) <| w_d rfl (d_assign (v := .int .i64 0) rfl) <| w_d rfl (d_assign (v := errV 106 (some 1)) rfl) <| w_done ?_
  obtain rfl := Option.some.inj he
  refine w_return fn_32 rs_32 (.tmp (v := .int .i64 0) rfl (.tmp (v := errV 106 (some 1)) rfl .nil)) <| ⟨[_], [_, _, _], rfl, hle, ⟨b_t_q0, v0_t, i0_t, rfl, rfl, h0_t⟩⟩
 ·
  refine w_else rfl (decide_eq_false c4) <| w_seq <| w_drawn (p := 9) (tl := [9, 10]) [[], [(0, some 20)], [(1, some 21)], [(2, some 22)], [(3, some 23)], [], [(5, some 25)], [(6, some 26)], [(7, some 27)]] [some 20, some 21, some 22, some 23, some 24, some 25, some 26, some 27, some 28] (fctF (.is (.pointer (some ⟨b_t, 0, none⟩)) :: .is (.pointer (some ⟨b_t, 0, none⟩)) :: .is (.pointer (some ⟨b_t, 5, none⟩)) :: .is (v0_t) :: .is (.int .i64 (t.f_l.length : Int)) :: .is (.pointer (some ⟨b_t, 0, none⟩)) :: .is (.pointer (some ⟨b_t, 0, none⟩)) :: .is (.pointer (some ⟨b_t, 3, none⟩)) :: .is (.int .i64 t.f_most) :: [])) (fun m_ => some (b1, .cells ⟨[v1_m, v2_m]⟩ 63 (0, 0)) :: some (b_t, .cells ⟨[.int .i64 t.f_rule.f_Hits, .int .i64 t.f_rule.f_Window, .int .i64 t.f_rule.f_Misses, .int .i64 t.f_most, .pointer (some ⟨b_t_q0, 0, none⟩), v0_t]⟩ 135 (0, 0)) :: some (b_t_q0, .cells ⟨[.int .i64 t.f_names.f_from, .int .i64 t.f_names.f_to, .int .i64 t.f_names.f_given.f_v]⟩ 113 (0, 0)) :: i0_t :: L) (fun _ => none) mixed (by kernel_rfl) (by kernel_rfl) rfl (fct_mono (by kernel_rfl)) ⟨(fun H' m_ hH hm_ hu_ => depK_nil <| s_d (m_ 0) rfl (d_move (v := .pointer (some ⟨b_t, 0, none⟩)) rfl) (by exact rfl) rfl), (by rintro H' m_ hH hm_ hu_ _ rfl; exact depK_nil <| s_d (m_ 1) rfl (d_nilCheck (p := ⟨b_t, 0, none⟩) rfl) (by exact rfl) rfl), (by rintro H' m_ hH hm_ hu_ _ rfl; exact depK_nil <| s_d (m_ 2) rfl (d_fld (o' := 5) Tryd.underlying135 rfl sz72 rfl rfl rfl) (by exact rfl) rfl), (by rintro H' m_ hH hm_ hu_ _ rfl; exact depK_nil <| s_d (m_ 3) rfl (d_loado (v := v0_t) ty72 rfl (.there .here) rfl rfl rfl rfl) (by exact rfl) rfl), (by rintro H' m_ hH hm_ hu_ _ rfl; exact depK_nil <| s_d (m_ 4) rfl (d_lenS Tryd.underlying72 rfl (h0_t.mono hH).shp) (by exact rfl) rfl), (fun H' m_ hH hm_ hu_ => depK_nil <| s_d (m_ 5) rfl (d_move (v := .pointer (some ⟨b_t, 0, none⟩)) rfl) (by exact rfl) rfl), (by rintro H' m_ hH hm_ hu_ _ rfl; exact depK_nil <| s_d (m_ 6) rfl (d_nilCheck (p := ⟨b_t, 0, none⟩) rfl) (by exact rfl) rfl), (by rintro H' m_ hH hm_ hu_ _ rfl; exact depK_nil <| s_d (m_ 7) rfl (d_fld (o' := 3) Tryd.underlying135 rfl sz3 rfl rfl rfl) (by exact rfl) rfl), (by rintro H' m_ hH hm_ hu_ _ rfl; exact depK_nil <| s_d (m_ 8) rfl (d_loado (v := .int .i64 t.f_most) ty3 rfl (.there .here) rfl rfl rfl rfl) (by exact rfl) rfl), trivial⟩ ?_
  intro H5 e6
  rintro _ _ rfl _ _ rfl _ _ rfl _ _ rfl _ _ rfl _ _ rfl _ _ rfl _ _ rfl _ _ rfl
  refine w_d rfl (d_geq rfl rfl) <| w_d rfl (d_assign (v := .bool (decide (t.f_most ≤ (t.f_l.length : Int)))) rfl) <| w_done ?_
  rcases its he with ⟨c7, he⟩ | ⟨c7, he⟩
  ·
   refine w_then rfl (decide_eq_true c7) <| w_seq <| w_region rfl <| w_d rfl (d_iface (v := .int .i64 10) Tryd.underlying106 rfl rfl) <| w_d rfl (d_assign (v := .int .i64 0) rfl) <| w_d rfl (d_assign (v := errV 106 (some 10)) rfl) <| w_done ?_
   obtain rfl := Option.some.inj he
   refine w_return fn_32 rs_32 (.tmp (v := .int .i64 0) rfl (.tmp (v := errV 106 (some 10)) rfl .nil)) <| ⟨[_], [_, _, _], rfl, hle.trans e6, ⟨b_t_q0, v0_t, i0_t, rfl, rfl, (h0_t.mono e6)⟩⟩
  ·
   refine w_else rfl (decide_eq_false c7) <| w_skip <| w_inBlock <| w_seq <| w_region rfl <| w_d rfl (d_move (v := .pointer (some ⟨b_t, 0, none⟩)) rfl) <| w_d rfl (d_nilCheck (p := ⟨b_t, 0, none⟩) rfl) <| w_d rfl (d_fld (o' := 0) Tryd.underlying135 rfl sz60 rfl rfl rfl) <| w_d rfl (d_loado (v := .agg ⟨[.int .i64 t.f_rule.f_Hits, .int .i64 t.f_rule.f_Window, .int .i64 t.f_rule.f_Misses]⟩) ty60 rfl (.there .here) rfl rfl rfl rfl) ?_
   obtain ⟨y8, hy9, he⟩ := Option.bind_eq_some_iff.1 he
   refine w_d rfl (call_d (o_call co57 (vs := [.agg ⟨[.int .i64 t.f_rule.f_Hits, .int .i64 t.f_rule.f_Window, .int .i64 t.f_rule.f_Misses]⟩]) rfl (life_Born.calls k (r_ := t.f_rule) hy9))) <| w_d rfl (d_move (v := .tuple ⟨[.agg ⟨[.int .i64 y8.1.f_Kind, .int .u32 y8.1.f_Seen, .int .i64 y8.1.f_Age, .int .i64 y8.1.f_Missed]⟩, errV 106 y8.2]⟩) rfl) <| w_d rfl (d_ext (vs := [.agg ⟨[.int .i64 y8.1.f_Kind, .int .u32 y8.1.f_Seen, .int .i64 y8.1.f_Age, .int .i64 y8.1.f_Missed]⟩, errV 106 y8.2]) rfl rfl) <| w_d rfl (d_ext (vs := [.agg ⟨[.int .i64 y8.1.f_Kind, .int .u32 y8.1.f_Seen, .int .i64 y8.1.f_Age, .int .i64 y8.1.f_Missed]⟩, errV 106 y8.2]) rfl rfl) <| w_a rfl (o_alloc zr76 rfl) ?_
   rintro _ _ _ ⟨b12, rfl, rfl, rfl⟩
   refine w_a0 rfl (o_store (v := .agg ⟨[.int .i64 y8.1.f_Kind, .int .u32 y8.1.f_Seen, .int .i64 y8.1.f_Age, .int .i64 y8.1.f_Missed]⟩) sz76 rfl rfl rfl rfl (one_cons rfl (one_cons rfl (one_cons rfl (one_cons rfl one_nil)))) .here (.here (.here (.here (.here .done))))) ?_
   rintro _ _ _ ⟨rfl, rfl, rfl⟩
   refine w_d rfl (d_assign (v := errV 106 y8.2) rfl) <| w_done <| w_seq <| w_seq <| w_region rfl <| w_d rfl (d_move (v := errV 106 y8.2) rfl) <| w_d rfl (d_nenil (e := y8.2) Tryd.underlying24 rfl) <| w_done ?_
   rcases its he with ⟨c13, he⟩ | ⟨c13, he⟩
   ·
    refine w_then rfl c13 <| w_seq <| w_region rfl <| w_d rfl (d_move (v := errV 106 y8.2) rfl) <| w_d rfl (d_assign (v := .int .i64 0) rfl) <| w_d rfl (d_assign (v := errV 106 y8.2) rfl) <| w_done ?_
    obtain rfl := Option.some.inj he
    refine w_return fn_32 rs_32 (.tmp (v := .int .i64 0) rfl (.tmp (v := errV 106 y8.2) rfl .nil)) <| ⟨[_, _], [_, _, _], rfl, hle.trans e6, ⟨b_t_q0, v0_t, i0_t, rfl, rfl, (h0_t.mono e6)⟩⟩
   ·
    refine w_else rfl (Bool.eq_false_iff.2 c13) <| w_skip <| w_seq <| w_region rfl <| w_d rfl (d_move (v := .pointer (some ⟨b_t, 0, none⟩)) rfl) <| w_d rfl (d_nilCheck (p := ⟨b_t, 0, none⟩) rfl) <| w_d rfl (d_fld (o' := 4) Tryd.underlying135 rfl sz22 rfl rfl rfl) <| w_d rfl (d_loado (v := .pointer (some ⟨b_t_q0, 0, none⟩)) ty22 rfl (.there (.there .here)) rfl rfl rfl rfl) <| w_pull (.there (.there (.there .here))) ?_
    obtain ⟨y14, hy15, he⟩ := Option.bind_eq_some_iff.1 he
    refine w_a rfl (o_call co9 (vs := [.pointer (some ⟨b_t_q0, 0, none⟩)]) rfl (names_Names_Next.calls k (n := t.f_names) hy15)) ?_
    rintro _ H16 _ ⟨_, rfl, e17, ⟨rfl, rfl⟩⟩
    refine w_it (L' := some (b_t_q0, .cells ⟨[.int .i64 y14.2.2.f_from, .int .i64 y14.2.2.f_to, .int .i64 y14.2.2.f_given.f_v]⟩ 113 (0, 0)) :: some (b12, .cells ⟨[.int .i64 y8.1.f_Kind, .int .u32 y8.1.f_Seen, .int .i64 y8.1.f_Age, .int .i64 y8.1.f_Missed]⟩ 76 (0, 0)) :: some (b1, .cells ⟨[v1_m, v2_m]⟩ 63 (0, 0)) :: some (b_t, .cells ⟨[.int .i64 t.f_rule.f_Hits, .int .i64 t.f_rule.f_Window, .int .i64 t.f_rule.f_Misses, .int .i64 t.f_most, .pointer (some ⟨b_t_q0, 0, none⟩), v0_t]⟩ 135 (0, 0)) :: none :: i0_t :: L) rfl <| w_put (.there (.there (.there .here))) <| w_d rfl (d_move (v := .tuple ⟨[.int .i64 y14.1, errV 106 y14.2.1]⟩) rfl) <| w_d rfl (d_ext (vs := [.int .i64 y14.1, errV 106 y14.2.1]) rfl rfl) <| w_d rfl (d_ext (vs := [.int .i64 y14.1, errV 106 y14.2.1]) rfl rfl) <| w_d rfl (d_assign (v := .int .i64 y14.1) rfl) <| w_d rfl (d_assign (v := errV 106 y14.2.1) rfl) <| w_done <| w_seq <| w_seq <| w_region rfl <| w_d rfl (d_move (v := errV 106 y14.2.1) rfl) ?_
    refine w_d rfl (d_nenil (e := y14.2.1) Tryd.underlying24 rfl) <| w_done ?_
    rcases its he with ⟨c18, he⟩ | ⟨c18, he⟩
    ·
     refine w_then rfl c18 <| w_seq <| w_region rfl <| w_d rfl (d_move (v := errV 106 y14.2.1) rfl) <| w_d rfl (d_assign (v := .int .i64 0) rfl) <| w_d rfl (d_assign (v := errV 106 y14.2.1) rfl) <| w_done ?_
     obtain rfl := Option.some.inj he
     refine w_return fn_32 rs_32 (.tmp (v := .int .i64 0) rfl (.tmp (v := errV 106 y14.2.1) rfl .nil)) <| ⟨[_, _], [_, _, _], rfl, hle.trans (e6.trans e17), ⟨b_t_q0, v0_t, i0_t, rfl, rfl, (h0_t.mono (e6.trans e17))⟩⟩
    ·
     refine w_else rfl (Bool.eq_false_iff.2 c18) <| w_skip <| w_seq <| w_seq <| w_region rfl <| w_d rfl (d_loado (v := .agg ⟨[.int .i64 y8.1.f_Kind, .int .u32 y8.1.f_Seen, .int .i64 y8.1.f_Age, .int .i64 y8.1.f_Missed]⟩) ty76 rfl .here rfl rfl rfl rfl) ?_
     obtain ⟨y19, hy20, he⟩ := Option.bind_eq_some_iff.1 he
     refine w_d rfl (call_d (o_call co37 (vs := [.agg ⟨[.int .i64 y8.1.f_Kind, .int .u32 y8.1.f_Seen, .int .i64 y8.1.f_Age, .int .i64 y8.1.f_Missed]⟩]) rfl (life_Gone.calls k (l := y8.1) hy20))) <| w_d rfl (d_not (b := y19) rfl) <| w_done ?_
     rcases its he with ⟨c23, he⟩ | ⟨c23, he⟩
     ·
      refine w_then rfl c23 ?_
      obtain ⟨y24, hy25, he⟩ := Option.bind_eq_some_iff.1 he
      obtain ⟨c39, he⟩ := rq he
      refine w_none (?_)
      refine w_drawn (p := 13) (tl := [13, 14, 15]) [[], [], [(1, some 57)], [(2, some 58)], [(3, some 59)], [], [], [], [(7, some 63)], [], [(5, some 61), (6, some 62), (8, some 64), (9, some 65)], [(10, some 66)], [(4, some 60), (11, some 67)]] [some 56, some 57, some 58, some 59, some 60, some 61, some 62, some 63, some 64, some 65, some 66, some 67, some 68] (fctF (.is (.pointer (some ⟨b_t, 0, none⟩)) :: .is (.pointer (some ⟨b_t, 0, none⟩)) :: .is (.pointer (some ⟨b_t, 0, none⟩)) :: .is (.pointer (some ⟨b_t, 5, none⟩)) :: .is (v0_t) :: .is (.int .i64 y14.1) :: .is (.agg ⟨[.int .i64 y8.1.f_Kind, .int .u32 y8.1.f_Seen, .int .i64 y8.1.f_Age, .int .i64 y8.1.f_Missed]⟩) :: .is (.agg ⟨[v1_m, v2_m]⟩) :: .of (table_own.out y24) (table_own.out_mono _) :: .is (.int .i64 time) :: .of (fun H v => ∃ v32, ∃ v34, v = .agg ⟨[.int .i64 y14.1, .int .i64 y8.1.f_Kind, .int .u32 y8.1.f_Seen, .int .i64 y8.1.f_Age, .int .i64 y8.1.f_Missed, v32, v34, .int .i64 time]⟩ ∧ Ro k_predict_State H v32 y24.f_States ∧ Ro (Kd.int .i64) H v34 y24.f_Chances) (by rintro _ _ _ hle ⟨v32, v34, rfl, h33, h35⟩; exact ⟨v32, v34, rfl, h33.mono hle, h35.mono hle⟩) :: .sl k_table_Track 78 [(⟨y14.1, y8.1, y24, time⟩ : table_Track)] :: .sl k_table_Track 78 (t.f_l ++ [(⟨y14.1, y8.1, y24, time⟩ : table_Track)]) :: [])) (fun m_ => m_ 11 :: some (b12, .cells ⟨[.int .i64 y8.1.f_Kind, .int .u32 y8.1.f_Seen, .int .i64 y8.1.f_Age, .int .i64 y8.1.f_Missed]⟩ 76 (0, 0)) :: some (b1, .cells ⟨[v1_m, v2_m]⟩ 63 (0, 0)) :: some (b_t, .cells ⟨[.int .i64 t.f_rule.f_Hits, .int .i64 t.f_rule.f_Window, .int .i64 t.f_rule.f_Misses, .int .i64 t.f_most, .pointer (some ⟨b_t_q0, 0, none⟩), v0_t]⟩ 135 (0, 0)) :: some (b_t_q0, .cells ⟨[.int .i64 y14.2.2.f_from, .int .i64 y14.2.2.f_to, .int .i64 y14.2.2.f_given.f_v]⟩ 113 (0, 0)) :: m_ 12 :: L) (fun i_ => if i_ = 12 then i0_t else none) mixed (by kernel_rfl) (by kernel_rfl) rfl (fct_mono (by kernel_rfl)) ⟨(fun H' m_ hH hm_ hu_ => depK_nil <| s_d (m_ 0) rfl (d_move (v := .pointer (some ⟨b_t, 0, none⟩)) rfl) (by exact rfl) rfl), (fun H' m_ hH hm_ hu_ => depK_nil <| s_d (m_ 1) rfl (d_move (v := .pointer (some ⟨b_t, 0, none⟩)) rfl) (by exact rfl) rfl), (by rintro H' m_ hH hm_ hu_ _ rfl; exact depK_nil <| s_d (m_ 2) rfl (d_nilCheck (p := ⟨b_t, 0, none⟩) rfl) (by exact rfl) rfl), (by rintro H' m_ hH hm_ hu_ _ rfl; exact depK_nil <| s_d (m_ 3) rfl (d_fld (o' := 5) Tryd.underlying135 rfl sz72 rfl rfl rfl) (by exact rfl) rfl), (by rintro H' m_ hH hm_ hu_ _ rfl; exact depK_nil <| s_d (m_ 4) rfl (d_loado (v := v0_t) ty72 rfl (.there (.there (.there .here))) rfl rfl rfl rfl) (by exact rfl) rfl), (fun H' m_ hH hm_ hu_ => depK_nil <| s_d (m_ 5) rfl (d_move (v := .int .i64 y14.1) rfl) (by exact rfl) rfl), (fun H' m_ hH hm_ hu_ => depK_nil <| s_d (m_ 6) rfl (d_loado (v := .agg ⟨[.int .i64 y8.1.f_Kind, .int .u32 y8.1.f_Seen, .int .i64 y8.1.f_Age, .int .i64 y8.1.f_Missed]⟩) ty76 rfl (.there .here) rfl rfl rfl rfl) (by exact rfl) rfl), (fun H' m_ hH hm_ hu_ => depK_nil <| s_d (m_ 7) rfl (d_loado (v := .agg ⟨[v1_m, v2_m]⟩) ty63 rfl (.there (.there .here)) rfl rfl rfl rfl) (by exact rfl) rfl), (by rintro H' m_ hH hm_ hu_ _ rfl; exact depK_nil <| s_k (m_ 8) rfl (o_call co58 (vs := [.agg ⟨[v1_m, v2_m]⟩]) rfl (table_own.calls k (m := m) hy25 (h1_m.mono ((e6.trans e17).trans hH)) (h2_m.mono ((e6.trans e17).trans hH)))) rfl (by rintro v_ H_ _ ⟨rfl, e_, h_⟩; exact ⟨rfl, e_, h_⟩)), (fun H' m_ hH hm_ hu_ => depK_nil <| s_d (m_ 9) rfl (d_move (v := .int .i64 time) rfl) (by exact rfl) rfl), (by rintro H' m_ hH hm_ hu_ _ rfl _ rfl _ ⟨v28, v30, rfl, h29, h31⟩ _ rfl; exact depK_nil <| s_d (m_ 10) rfl (d_build (cs' := [.int .i64 y14.1, .int .i64 y8.1.f_Kind, .int .u32 y8.1.f_Seen, .int .i64 y8.1.f_Age, .int .i64 y8.1.f_Missed, v28, v30, .int .i64 time]) Tryd.underlying78 zr78 rfl (by kernel_rfl) (parts := [(0, .int .i64 y14.1), (1, .agg ⟨[.int .i64 y8.1.f_Kind, .int .u32 y8.1.f_Seen, .int .i64 y8.1.f_Age, .int .i64 y8.1.f_Missed]⟩), (2, .agg ⟨[v28, v30]⟩), (3, .int .i64 time)]) rfl (.cons (place_of rfl sz2 rfl) rfl rfl (.here .done) (.cons (place_of rfl sz76 rfl) rfl rfl (.there (.here (.here (.here (.here .done))))) (.cons (place_of rfl sz63 rfl) rfl rfl (.there (.there (.there (.there (.there (.here (.here .done))))))) (.cons (place_of rfl sz2 rfl) rfl rfl (.there (.there (.there (.there (.there (.there (.there (.here .done)))))))) .nil))))) (by exact ⟨v28, v30, rfl, h29, h31⟩) rfl), (by rintro H' m_ hH hm_ hu_ _ ⟨v32, v34, rfl, h33, h35⟩; exact depK_nil <| s_sl hm_ rfl rfl (o_buildSlice' (kd := k_table_Track) (css := [[.int .i64 y14.1, .int .i64 y8.1.f_Kind, .int .u32 y8.1.f_Seen, .int .i64 y8.1.f_Age, .int .i64 y8.1.f_Missed, v32, v34, .int .i64 time]]) (xs := [(⟨y14.1, y8.1, y24, time⟩ : table_Track)]) (parts := [(0, .agg ⟨[.int .i64 y14.1, .int .i64 y8.1.f_Kind, .int .u32 y8.1.f_Seen, .int .i64 y8.1.f_Age, .int .i64 y8.1.f_Missed, v32, v34, .int .i64 time]⟩)]) Tryd.underlying72 ti78 rfl ⟨_, _, rfl, rfl, rfl⟩ ⟨(k_table_Track_in (x := ⟨y14.1, y8.1, y24, time⟩) h33 h35), trivial⟩ rfl (by decide)) rfl (fun _ => .here) (by exact fun _ _ h_ => h_)), (by rintro H' m_ hH hm_ hu_ _ rfl v36 (h38 : Sl k_table_Track H' 78 (m_ 11) v36 [(⟨y14.1, y8.1, y24, time⟩ : table_Track)]); exact depK_nil <| s_app (i0_t) hm_ rfl (o_append' (kd := k_table_Track) Tryd.underlying72 Tryd.underlying72 ti78 rfl (by first | omega | (simp only [List.nil_append, List.length_cons, List.length_nil]; omega)) rfl rfl (h0_t.mono ((e6.trans e17).trans hH)) (h38.src .here) (fun _ => (.there (.there (.there (.there (.there .here))))))) rfl (by exact fun _ _ h_ => h_)), trivial⟩ ?_
      intro H43 e44
      rintro _ _ rfl _ _ rfl _ _ rfl _ _ rfl _ _ rfl _ _ rfl _ _ rfl _ _ rfl _ _ ⟨v28, v30, rfl, h29, h31⟩ _ _ rfl _ _ ⟨v32, v34, rfl, h33, h35⟩ v36 i37 (h38 : Sl k_table_Track H43 78 i37 v36 [(⟨y14.1, y8.1, y24, time⟩ : table_Track)]) v40 i41 (h42 : Sl k_table_Track H43 78 i41 v40 (t.f_l ++ [(⟨y14.1, y8.1, y24, time⟩ : table_Track)]))
      refine w_it (L' := i37 :: some (b12, .cells ⟨[.int .i64 y8.1.f_Kind, .int .u32 y8.1.f_Seen, .int .i64 y8.1.f_Age, .int .i64 y8.1.f_Missed]⟩ 76 (0, 0)) :: some (b1, .cells ⟨[v1_m, v2_m]⟩ 63 (0, 0)) :: some (b_t, .cells ⟨[.int .i64 t.f_rule.f_Hits, .int .i64 t.f_rule.f_Window, .int .i64 t.f_rule.f_Misses, .int .i64 t.f_most, .pointer (some ⟨b_t_q0, 0, none⟩), v0_t]⟩ 135 (0, 0)) :: some (b_t_q0, .cells ⟨[.int .i64 y14.2.2.f_from, .int .i64 y14.2.2.f_to, .int .i64 y14.2.2.f_given.f_v]⟩ 113 (0, 0)) :: i41 :: L) rfl <| w_d rfl (d_nilCheck (p := ⟨b_t, 0, none⟩) rfl) <| w_d rfl (d_fld (o' := 5) Tryd.underlying135 rfl sz72 rfl rfl rfl) <| w_a0 rfl (o_store (v := v40) sz72 rfl rfl h42.cells rfl (one_cons (h42.one) one_nil) (.there (.there (.there .here))) (.there (.there (.there (.there (.there (.here .done))))))) ?_
      rintro _ _ _ ⟨rfl, rfl, rfl⟩
      refine w_done <| w_seq <| w_region rfl <| w_d rfl (d_move (v := .int .i64 y14.1) rfl) <| w_d rfl (d_assign (v := .int .i64 y14.1) rfl) <| w_d rfl (d_assign (v := errV 106 none) rfl) <| w_done ?_
      obtain rfl := Option.some.inj he
      refine w_return fn_32 rs_32 (.tmp (v := .int .i64 y14.1) rfl (.tmp (v := errV 106 none) rfl .nil)) <| ⟨[_, _, _], [_, _, _], rfl, hle.trans ((e6.trans e17).trans e44), ⟨b_t_q0, v40, i41, rfl, rfl, h42⟩⟩
     ·
      refine w_else rfl (Bool.eq_false_iff.2 c23) <| w_skip <| w_seq <| w_region rfl <| w_d rfl (d_move (v := .int .i64 y14.1) rfl) <| w_d rfl (d_assign (v := .int .i64 y14.1) rfl) <| w_d rfl (d_assign (v := errV 106 none) rfl) <| w_done ?_
      obtain rfl := Option.some.inj he
      refine w_return fn_32 rs_32 (.tmp (v := .int .i64 y14.1) rfl (.tmp (v := errV 106 none) rfl .nil)) <| ⟨[_, _], [_, _, _], rfl, hle.trans (e6.trans e17), ⟨b_t_q0, v0_t, i0_t, rfl, rfl, (h0_t.mono (e6.trans e17))⟩⟩
/-! ### (radome/table.Track).own -/
noncomputable def table_Track_own.C : Code := (Tryd.f59.body).getD .skip
def table_Track_own.out (r : table_Track) (H : Hp) (v : Value) : Prop := ∃ v0, ∃ v1, v = .agg ⟨[.int .i64 r.f_ID, .int .i64 r.f_Life.f_Kind, .int .u32 r.f_Life.f_Seen, .int .i64 r.f_Life.f_Age, .int .i64 r.f_Life.f_Missed, v0, v1, .int .i64 r.f_Time]⟩ ∧ Ro k_predict_State H v0 r.f_Imm.f_States ∧ Ro (Kd.int .i64) H v1 r.f_Imm.f_Chances
theorem table_Track_own.out_mono (r : table_Track) {H H' : Hp} {v : Value} (hle : H.le H') (h : table_Track_own.out r H v) : table_Track_own.out r H' v := by
 obtain ⟨v0, v1, rfl, h0, h1⟩ := h; exact ⟨v0, v1, rfl, h0.mono hle, h1.mono hle⟩
abbrev table_Track_own.R (H0 : Hp) (L : Items) (r : table_Track) : Value → Hp → Items → Prop := fun v H' L' => (∃ p, L' = p ++ L) ∧ H0.le H' ∧ table_Track_own.out r H' v
noncomputable def table_Track_own.f (k : Nat) (t : table_Track) : Option table_Track := (table_own.f k t.f_Imm).bind fun y3 => some ((⟨t.f_ID, t.f_Life, y3, t.f_Time⟩ : table_Track))
theorem table_Track_own.mono : ∀ k y0, LeO (table_Track_own.f k y0) (table_Track_own.f (k + 1) y0) := fun k _ => by unfold table_Track_own.f; exact (LeO.bind (table_own.mono k _) fun _ => LeO.refl _)
theorem table_Track_own.calls (k : Nat) {H : Hp} {L : Items} {t : table_Track} {v0_t : Value} {v1_t : Value} {r : table_Track} (he : table_Track_own.f k t = some r) (h0_t : Ro k_predict_State H v0_t t.f_Imm.f_States) (h1_t : Ro (Kd.int .i64) H v1_t t.f_Imm.f_Chances) : Ct Tryd.prog 59 ⟨[.agg ⟨[.int .i64 t.f_ID, .int .i64 t.f_Life.f_Kind, .int .u32 t.f_Life.f_Seen, .int .i64 t.f_Life.f_Age, .int .i64 t.f_Life.f_Missed, v0_t, v1_t, .int .i64 t.f_Time]⟩]⟩ H L (fun v H' L' => L = L' ∧ H.le H' ∧ table_Track_own.out r H' v) := by
 refine ct_out (O := table_Track_own.out r) ?_
 have hle : H.le H := .refl _
 unfold table_Track_own.f at he
 refine ct_enter (args := [_]) fn_59 rfl nt_59 rfl <| w_seq <| w_region rfl <| w_a rfl (o_box (v := .agg ⟨[.int .i64 t.f_ID, .int .i64 t.f_Life.f_Kind, .int .u32 t.f_Life.f_Seen, .int .i64 t.f_Life.f_Age, .int .i64 t.f_Life.f_Missed, v0_t, v1_t, .int .i64 t.f_Time]⟩) rfl rfl) ?_
 rintro _ _ _ ⟨b1, rfl, rfl, rfl⟩
 refine w_a rfl (o_alloc zr78 rfl) ?_
 rintro _ _ _ ⟨b2, rfl, rfl, rfl⟩
 refine w_done <| w_seq <| w_region rfl <| w_d rfl (d_fld (o' := 5) Tryd.underlying78 rfl sz63 rfl rfl rfl) <| w_d rfl (d_loado (v := .agg ⟨[v0_t, v1_t]⟩) ty63 rfl (.there .here) rfl rfl rfl rfl) ?_
 obtain ⟨y3, hy4, he⟩ := Option.bind_eq_some_iff.1 he
 refine w_a rfl (o_call co58 (vs := [.agg ⟨[v0_t, v1_t]⟩]) rfl (table_own.calls k (m := t.f_Imm) hy4 h0_t h1_t)) ?_
 rintro _ H5 _ ⟨rfl, e6, ⟨v7, v9, rfl, h8, h10⟩⟩
 refine w_d rfl (d_fld (o' := 5) Tryd.underlying78 rfl sz63 rfl rfl rfl) <| w_a0 rfl (o_store (v := .agg ⟨[v7, v9]⟩) sz63 rfl rfl rfl rfl (one_cons (h8.one) (one_cons (h10.one) one_nil)) (.there .here) (.there (.there (.there (.there (.there (.here (.here .done)))))))) ?_
 rintro _ _ _ ⟨rfl, rfl, rfl⟩
 refine w_done <| w_seq <| w_region rfl <| w_d rfl (d_loado (v := .agg ⟨[.int .i64 t.f_ID, .int .i64 t.f_Life.f_Kind, .int .u32 t.f_Life.f_Seen, .int .i64 t.f_Life.f_Age, .int .i64 t.f_Life.f_Missed, v7, v9, .int .i64 t.f_Time]⟩) ty78 rfl (.there .here) rfl rfl rfl rfl) <| w_a0 rfl (o_store (v := .agg ⟨[.int .i64 t.f_ID, .int .i64 t.f_Life.f_Kind, .int .u32 t.f_Life.f_Seen, .int .i64 t.f_Life.f_Age, .int .i64 t.f_Life.f_Missed, v7, v9, .int .i64 t.f_Time]⟩) sz78 rfl rfl rfl rfl (one_cons rfl (one_cons rfl (one_cons rfl (one_cons rfl (one_cons rfl (one_cons (h8.one) (one_cons (h10.one) (one_cons rfl one_nil)))))))) .here (.here (.here (.here (.here (.here (.here (.here (.here .done))))))))) ?_
 rintro _ _ _ ⟨rfl, rfl, rfl⟩
 refine w_done ?_
 obtain rfl := Option.some.inj he
 refine w_return fn_59 rs_59 (.box (v := .agg ⟨[.int .i64 t.f_ID, .int .i64 t.f_Life.f_Kind, .int .u32 t.f_Life.f_Seen, .int .i64 t.f_Life.f_Age, .int .i64 t.f_Life.f_Missed, v7, v9, .int .i64 t.f_Time]⟩) rfl ty78 rfl rfl .here rfl .nil) <| ⟨⟨[_, _], rfl⟩, hle.trans e6, ⟨v7, v9, rfl, h8, h10⟩⟩
/-! ### (*radome/table.Table).Tracks -/
noncomputable def table_Table_Tracks.C : Code := (Tryd.f34.body).getD .skip
abbrev table_Table_Tracks.out (r : (List table_Track)) (H : Hp) (v : Value) : Prop := Ro k_table_Track H v r
abbrev table_Table_Tracks.R (H0 : Hp) (L : Items) (r : (List table_Track)) : Value → Hp → Items → Prop := fun v H' L' => (∃ p, L' = p ++ L) ∧ H0.le H' ∧ table_Table_Tracks.out r H' v
structure table_Table_Tracks.Hs where
 l0 : (List table_Track) → (List table_Track) → Int → Int → Option (List table_Track)
noncomputable def table_Table_Tracks.b0 (k : Nat) (h : table_Table_Tracks.Hs)  (out : List table_Track) (t11 : List table_Track) (t12 : Int) (t13 : Int) : Option (List table_Track) := if t13 < t12 then (if (0 : Int) ≤ t13 ∧ t13 < (t11.length : Int) then ((table_Track_own.f k (rd t11 t13)).bind fun y10 => if out.length + 1 ≤ 1466015503573 then (h.l0 (out ++ [y10]) t11 t12 (w64 (t13 + 1))) else none) else none) else (some (out))
noncomputable def table_Table_Tracks.hs : Nat → table_Table_Tracks.Hs
 | 0 => ⟨fun _ _ _ _ => none⟩
 | k + 1 => ⟨fun x0 x1 x2 x3 => table_Table_Tracks.b0 k (table_Table_Tracks.hs k) x0 x1 x2 x3⟩
noncomputable def table_Table_Tracks.f (k : Nat) (t : table_Table) : Option (List table_Track) := (fun h : table_Table_Tracks.Hs => h.l0 [] t.f_l (t.f_l.length : Int) 0) (table_Table_Tracks.hs k)
structure table_Table_Tracks.LE (h h' : table_Table_Tracks.Hs) : Prop where
 l0 : ∀ y0 y1 y2 y3, LeO (h.l0 y0 y1 y2 y3) (h'.l0 y0 y1 y2 y3)
theorem table_Table_Tracks.b0_mono {k : Nat} {h h' : table_Table_Tracks.Hs} (hl : table_Table_Tracks.LE h h') : ∀ y0 y1 y2 y3, LeO (table_Table_Tracks.b0 k h y0 y1 y2 y3) (table_Table_Tracks.b0 (k + 1) h' y0 y1 y2 y3) := fun _ _ _ _ => (LeO.ite (LeO.ite (LeO.bind (table_Track_own.mono k _) fun _ => LeO.ite (hl.l0 _ _ _ _) (LeO.refl _)) (LeO.refl _)) (LeO.refl _))
theorem table_Table_Tracks.hs_mono : ∀ k, table_Table_Tracks.LE (table_Table_Tracks.hs k) (table_Table_Tracks.hs (k + 1))
 | 0 => ⟨fun _ _ _ _ => LeO.none _⟩
 | k + 1 => ⟨table_Table_Tracks.b0_mono (k := k) (table_Table_Tracks.hs_mono k)⟩
theorem table_Table_Tracks.mono : ∀ k y0, LeO (table_Table_Tracks.f k y0) (table_Table_Tracks.f (k + 1) y0) := fun k _ => have hl := table_Table_Tracks.hs_mono k; by unfold table_Table_Tracks.f; exact (hl.l0 _ _ _ _)
noncomputable def table_Table_Tracks.Kl0 : List Item := .code (lopB (blkB (seqR (seqL (seqR (seqR (seqR table_Table_Tracks.C))))))) :: .inLoop (lopB (blkB (seqR (seqL (seqR (seqR (seqR table_Table_Tracks.C))))))) :: .inBlock 0 :: .code (seqR (seqR (seqR (seqR table_Table_Tracks.C)))) :: []
structure table_Table_Tracks.OK (h : table_Table_Tracks.Hs) : Prop where
 l0 : ∀ {H0 H : Hp} {L : Items} {r : (List table_Track)} {jk_ : Nat → Value} {out : List table_Track} {t11 : List table_Track} {t12 : Int} {t13 : Int} {v_out : Value} {v_t11 : Value} {i_out : Item'} (_ : H0.le H) (_he : h.l0 out t11 t12 t13 = some r) (_h_out : Sl k_table_Track H 78 i_out v_out out) (_h_t11 : Src k_table_Track H L v_t11 t11), Wp Tryd.prog 34 24 table_Table_Tracks.Kl0 (upd (upd (upd (upd (upd jk_ 2 (.slice none 0 0)) 3 (v_out)) 11 (v_t11)) 12 (.int .i64 t12)) 13 (.int .i64 t13)) H (i_out :: L) (table_Table_Tracks.R H0 L r)
theorem table_Table_Tracks.b0_ok {k : Nat} {h : table_Table_Tracks.Hs} (hh : table_Table_Tracks.OK h) {H0 H : Hp} {L : Items} {r : (List table_Track)} {jk_ : Nat → Value} {out : List table_Track} {t11 : List table_Track} {t12 : Int} {t13 : Int} {v_out : Value} {v_t11 : Value} {i_out : Item'} (hle : H0.le H) (he : table_Table_Tracks.b0 k h out t11 t12 t13 = some r) (h_out : Sl k_table_Track H 78 i_out v_out out) (h_t11 : Src k_table_Track H L v_t11 t11) : Wp Tryd.prog 34 24 table_Table_Tracks.Kl0 (upd (upd (upd (upd (upd jk_ 2 (.slice none 0 0)) 3 (v_out)) 11 (v_t11)) 12 (.int .i64 t12)) 13 (.int .i64 t13)) H (i_out :: L) (table_Table_Tracks.R H0 L r) := by
 unfold table_Table_Tracks.b0 at he
 unfold table_Table_Tracks.Kl0
 refine w_seq <| w_region rfl <| w_d rfl (d_lss rfl rfl) <| w_done <| w_seq ?_
 rcases its he with ⟨c1, he⟩ | ⟨c1, he⟩
 ·
  refine w_then rfl (decide_eq_true c1) <| w_skip <| w_seq <| w_block <| w_seq <| w_region rfl ?_
  obtain ⟨c2, he⟩ := rq he
  refine w_d rfl (d_index (sz := 8) Tryd.underlying72 sz78 rfl h_t11.th rfl c2) ?_
  obtain ⟨_, l3, r4⟩ := el_of (kd := k_table_Track) h_t11.th c2
  obtain ⟨v5, v7, rfl, h6, h8⟩ := k_table_Track_out r4
  refine w_d rfl (d_load (v := .agg ⟨[.int .i64 ((rd t11 t13).f_ID), .int .i64 (((rd t11 t13).f_Life).f_Kind), .int .u32 (((rd t11 t13).f_Life).f_Seen), .int .i64 (((rd t11 t13).f_Life).f_Age), .int .i64 (((rd t11 t13).f_Life).f_Missed), v5, v7, .int .i64 ((rd t11 t13).f_Time)]⟩) (cs := [.int .i64 ((rd t11 t13).f_ID), .int .i64 (((rd t11 t13).f_Life).f_Kind), .int .u32 (((rd t11 t13).f_Life).f_Seen), .int .i64 (((rd t11 t13).f_Life).f_Age), .int .i64 (((rd t11 t13).f_Life).f_Missed), v5, v7, .int .i64 ((rd t11 t13).f_Time)]) ty78 rfl rfl (by decide) l3 rfl) <| w_a rfl (o_alloc zr78 rfl) ?_
  rintro _ _ _ ⟨b9, rfl, rfl, rfl⟩
  refine w_a0 rfl (o_store (v := .agg ⟨[.int .i64 ((rd t11 t13).f_ID), .int .i64 (((rd t11 t13).f_Life).f_Kind), .int .u32 (((rd t11 t13).f_Life).f_Seen), .int .i64 (((rd t11 t13).f_Life).f_Age), .int .i64 (((rd t11 t13).f_Life).f_Missed), v5, v7, .int .i64 ((rd t11 t13).f_Time)]⟩) sz78 rfl rfl rfl rfl (one_cons rfl (one_cons rfl (one_cons rfl (one_cons rfl (one_cons rfl (one_cons (h6.one) (one_cons (h8.one) (one_cons rfl one_nil)))))))) .here (.here (.here (.here (.here (.here (.here (.here (.here .done))))))))) ?_
  rintro _ _ _ ⟨rfl, rfl, rfl⟩
  refine w_done <| w_region rfl <| w_d rfl (d_move (v := v_out) rfl) <| w_d rfl (d_loado (v := .agg ⟨[.int .i64 ((rd t11 t13).f_ID), .int .i64 (((rd t11 t13).f_Life).f_Kind), .int .u32 (((rd t11 t13).f_Life).f_Seen), .int .i64 (((rd t11 t13).f_Life).f_Age), .int .i64 (((rd t11 t13).f_Life).f_Missed), v5, v7, .int .i64 ((rd t11 t13).f_Time)]⟩) ty78 rfl .here rfl rfl rfl rfl) ?_
  obtain ⟨y10, hy11, he⟩ := Option.bind_eq_some_iff.1 he
  refine w_a rfl (o_call co59 (vs := [.agg ⟨[.int .i64 ((rd t11 t13).f_ID), .int .i64 (((rd t11 t13).f_Life).f_Kind), .int .u32 (((rd t11 t13).f_Life).f_Seen), .int .i64 (((rd t11 t13).f_Life).f_Age), .int .i64 (((rd t11 t13).f_Life).f_Missed), v5, v7, .int .i64 ((rd t11 t13).f_Time)]⟩]) rfl (table_Track_own.calls k (t := (rd t11 t13)) hy11 h6 h8)) ?_
  rintro _ H12 _ ⟨rfl, e13, ⟨v14, v16, rfl, h15, h17⟩⟩
  refine w_a rfl (o_buildSlice' (kd := k_table_Track) (css := [[.int .i64 y10.f_ID, .int .i64 y10.f_Life.f_Kind, .int .u32 y10.f_Life.f_Seen, .int .i64 y10.f_Life.f_Age, .int .i64 y10.f_Life.f_Missed, v14, v16, .int .i64 y10.f_Time]]) (xs := [y10]) (parts := [(0, .agg ⟨[.int .i64 y10.f_ID, .int .i64 y10.f_Life.f_Kind, .int .u32 y10.f_Life.f_Seen, .int .i64 y10.f_Life.f_Age, .int .i64 y10.f_Life.f_Missed, v14, v16, .int .i64 y10.f_Time]⟩)]) Tryd.underlying72 ti78 rfl ⟨_, _, rfl, rfl, rfl⟩ ⟨(k_table_Track_in (x := y10) h15 h17), trivial⟩ rfl (by decide)) ?_
  rintro v18 _ _ ⟨i19, rfl, rfl, h20⟩
  obtain ⟨c21, he⟩ := rq he
  refine w_a rfl (o_append' (kd := k_table_Track) (F := fun z_ => i19 :: some (b9, .cells ⟨[.int .i64 ((rd t11 t13).f_ID), .int .i64 (((rd t11 t13).f_Life).f_Kind), .int .u32 (((rd t11 t13).f_Life).f_Seen), .int .i64 (((rd t11 t13).f_Life).f_Age), .int .i64 (((rd t11 t13).f_Life).f_Missed), v5, v7, .int .i64 ((rd t11 t13).f_Time)]⟩ 78 (0, 0)) :: z_ :: L) Tryd.underlying72 Tryd.underlying72 ti78 rfl (by first | omega | (simp only [List.nil_append, List.length_cons, List.length_nil]; omega)) rfl rfl (h_out.mono e13) (h20.src .here) (fun _ => (.there (.there .here)))) ?_
  rintro v22 _ _ ⟨i23, rfl, rfl, h24⟩
  refine w_d rfl (d_assign (v := v22) rfl) <| w_done <| w_inBlock <| w_region rfl <| w_d rfl (d_add (c := w64 (t13 + 1)) rfl rfl rfl) <| w_d rfl (d_move (v := .int .i64 (w64 (t13 + 1))) rfl) <| w_done <| w_inLoop <| w_del (.there .here) <| w_del .here <| w_sl 2 (.slice none 0 0) rfl <| w_sl 3 (v22) rfl ?_
  refine w_sl 11 (v_t11) rfl <| w_sl 12 (.int .i64 t12) rfl <| w_sl 13 (.int .i64 (w64 (t13 + 1))) rfl <| hh.l0 (hle.trans e13) he h24 (h_t11.mono e13)
 ·
  refine w_else rfl (decide_eq_false c1) <| w_exit rfl <| w_seq <| w_region rfl <| w_d rfl (d_move (v := v_out) rfl) <| w_d rfl (d_assign (v := v_out) rfl) <| w_done <| w_freeze h_out .here ?_
  intro H25 e26 h27
  obtain rfl := Option.some.inj he
  refine w_return fn_34 rs_34 (.tmp (v := v_out) rfl .nil) <| ⟨⟨[_], rfl⟩, hle.trans e26, h27⟩
theorem table_Table_Tracks.ok : ∀ k, table_Table_Tracks.OK (table_Table_Tracks.hs k)
 | 0 => ⟨(by intros; exact nomatch (show none = some _ from by assumption))⟩
 | k + 1 => ⟨table_Table_Tracks.b0_ok (k := k) (table_Table_Tracks.ok k)⟩
theorem table_Table_Tracks.calls (k : Nat) {H : Hp} {L : Items} {t : table_Table} {v0_t : Value} {b_t : Nat} {b_t_q0 : Nat} {r : (List table_Track)} (he : table_Table_Tracks.f k t = some r) (h0_t : Src k_table_Track H L v0_t t.f_l) (hl_t : Lies H L ⟨b_t, 0, none⟩ [.int .i64 t.f_rule.f_Hits, .int .i64 t.f_rule.f_Window, .int .i64 t.f_rule.f_Misses, .int .i64 t.f_most, .pointer (some ⟨b_t_q0, 0, none⟩), v0_t]) (hl_t_q0 : Lies H L ⟨b_t_q0, 0, none⟩ [.int .i64 t.f_names.f_from, .int .i64 t.f_names.f_to, .int .i64 t.f_names.f_given.f_v]) : Ct Tryd.prog 34 ⟨[.pointer (some ⟨b_t, 0, none⟩)]⟩ H L (fun v H' L' => L = L' ∧ H.le H' ∧ table_Table_Tracks.out r H' v) := by
 refine ct_out (O := table_Table_Tracks.out r) ?_
 have hle : H.le H := .refl _
 have hh := table_Table_Tracks.ok k
 unfold table_Table_Tracks.f at he
 refine ct_enter (args := [_]) fn_34 rfl nt_34 rfl <| w_seq <| w_region rfl <| w_d rfl (d_assign (v := .slice none 0 0) rfl) <| w_done <| w_seq <| w_seq <| w_region rfl <| w_d rfl (d_move (v := .pointer (some ⟨b_t, 0, none⟩)) rfl) <| w_d rfl (d_eqptr (a := (some ⟨b_t, 0, none⟩)) Tryd.underlying56 rfl rfl) <| w_done <| w_else rfl rfl ?_
 refine w_skip <| w_seq <| w_region rfl <| w_d rfl (d_assign (v := .slice none 0 0) rfl) <| w_done <| w_seq <| w_seq <| w_region rfl <| w_d rfl (d_move (v := .pointer (some ⟨b_t, 0, none⟩)) rfl) <| w_d rfl (d_nilCheck (p := ⟨b_t, 0, none⟩) rfl) <| w_d rfl (d_fld (o' := 5) Tryd.underlying135 rfl sz72 rfl rfl rfl) <| w_d rfl (d_loadl (v := v0_t) ty72 rfl (hl_t) rfl rfl rfl rfl) ?_
 refine w_d rfl (d_len Tryd.underlying72 rfl h0_t) <| w_d rfl (d_move (v := .int .i64 0) rfl) <| w_done <| w_block <| w_loop <| w_none <| w_sl 2 (.slice none 0 0) rfl <| w_sl 3 (.slice none 0 0) rfl <| w_sl 11 (v0_t) rfl <| w_sl 12 (.int .i64 (t.f_l.length : Int)) rfl <| w_sl 13 (.int .i64 0) rfl <| hh.l0 hle he (sl_nil _ _ _) h0_t
def kx_table_Track : Kd table_Track where
 sz := 8
 rep := fun H cs x => ∃ v0 v1 : Value, cs = [.int .i64 x.f_ID, .int .i64 x.f_Life.f_Kind, .int .u32 x.f_Life.f_Seen, .int .i64 x.f_Life.f_Age, .int .i64 x.f_Life.f_Missed, v0, v1, .int .i64 x.f_Time] ∧ Ro k_predict_State H v0 x.f_Imm.f_States ∧ v1.oneCell' = true
 len := by rintro H _ x ⟨v0, v1, rfl, h0, o0⟩; rfl
 mono := by rintro H H' _ x hle ⟨v0, v1, rfl, h0, o0⟩; exact ⟨v0, v1, rfl, h0.mono hle, o0⟩
 one := by
  rintro H _ x ⟨v0, v1, rfl, h0, o0⟩ c hc
  simp only [List.mem_cons, List.not_mem_nil, or_false] at hc
  rcases hc with rfl | rfl | rfl | rfl | rfl | rfl | rfl | rfl
  · rfl
  · rfl
  · rfl
  · rfl
  · rfl
  · exact h0.one
  · exact o0
  · rfl
theorem kx_table_Track_out {H : Hp} {cs : List Value} {x : table_Track} (h : kx_table_Track.rep H cs x) : ∃ v0 v1 : Value, cs = [.int .i64 x.f_ID, .int .i64 x.f_Life.f_Kind, .int .u32 x.f_Life.f_Seen, .int .i64 x.f_Life.f_Age, .int .i64 x.f_Life.f_Missed, v0, v1, .int .i64 x.f_Time] ∧ Ro k_predict_State H v0 x.f_Imm.f_States ∧ v1.oneCell' = true := h
theorem reps_kx {H : Hp} : ∀ {xs : List table_Track} {bs : List Value} {inner : List Value}, xs.length = bs.length → Reps kf_table_Track.raw H inner (xs.zip bs) → Reps kx_table_Track H inner xs
 | [], [], _, _, h => h
 | x :: xs, b :: bs, _, e, ⟨c, r, e1, h1, h2⟩ => by
  obtain ⟨⟨v0, h3, h4⟩, h5⟩ := h1
  exact ⟨c, r, e1, ⟨v0, b, h3, h4, h5⟩, reps_kx (by simpa using e) h2⟩
 | [], _ :: _, _, e, _ => by simp at e
 | _ :: _, [], _, e, _ => by simp at e
theorem SlF_kx {H : Hp} {it : Item'} {F : Items} {v : Value} {xs : List table_Track} (h : SlF kf_table_Track H 78 it F v xs) : Sl kx_table_Track H 78 it v xs := by
 obtain ⟨bs, h1, h2⟩ := h
 have hl := h1.len
 have hz : (xs.zip bs).length = xs.length := by rw [List.length_zip]; omega
 rcases h2 with ⟨e1, e2, e3⟩ | ⟨b, o, arr, c, e1, e2, h3, h4, h5⟩
 · rw [e3] at hz; exact .inl ⟨e1, e2, List.eq_nil_of_length_eq_zero hz.symm⟩
 · rw [hz] at e2 h3 h5; exact .inr ⟨b, o, arr, c, e1, e2, h3, h4, reps_kx hl h5⟩
def table_own.outS (r : imm_Imm) (H : Hp) (it : Item') (v : Value) : Prop := ∃ v0 v1, v = .agg ⟨[v0, v1]⟩ ∧ Ro k_predict_State H v0 r.f_States ∧ Sl (Kd.int .i64) H 2 it v1 r.f_Chances
theorem table_own.callsS (k : Nat) {H : Hp} {L : Items} {m : imm_Imm} {v0_m : Value} {v1_m : Value} {r : imm_Imm} (he : table_own.f k m = some r) (h0_m : Ro k_predict_State H v0_m m.f_States) (h1_m : Ro (Kd.int .i64) H v1_m m.f_Chances) : Ct Tryd.prog 58 ⟨[.agg ⟨[v0_m, v1_m]⟩]⟩ H L (fun v H' L' => ∃ it, L' = it :: L ∧ H.le H' ∧ table_own.outS r H' it v) := by
 refine ct_ownQ (Q := table_own.outS r) ?_
 have hle : H.le H := .refl _
 unfold table_own.f at he
 refine ct_enter (args := [_]) fn_58 rfl nt_58 rfl <| w_seq <| w_region rfl <| w_a rfl (o_box (v := .agg ⟨[v0_m, v1_m]⟩) rfl rfl) ?_
 rintro _ _ _ ⟨b1, rfl, rfl, rfl⟩
 refine w_a rfl (o_alloc zr63 rfl) ?_
 rintro _ _ _ ⟨b2, rfl, rfl, rfl⟩
 refine w_done <| w_seq ?_
 obtain ⟨c3, he⟩ := rq he
 refine w_none (?_)
 refine w_drawn (p := 5) (tl := [5, 6, 7]) [[], [(0, some 3)], [(1, some 4)], [], [(3, some 6)]] [some 3, some 4, some 5, some 6, some 7] (fctF (.is (.pointer (some ⟨b1, 0, none⟩)) :: .is (v0_m) :: .sl k_predict_State 177 m.f_States :: .is (.pointer (some ⟨b1, 1, none⟩)) :: .is (v1_m) :: [])) (fun m_ => m_ 2 :: some (b2, .cells ⟨[.slice none 0 0, .slice none 0 0]⟩ 63 (0, 0)) :: some (b1, .cells ⟨[v0_m, v1_m]⟩ 63 (0, 0)) :: L) (fun _ => none) mixed (by kernel_rfl) (by kernel_rfl) rfl (fct_mono (by kernel_rfl)) ⟨(fun H' m_ hH hm_ hu_ => depK_nil <| s_d (m_ 0) rfl (d_fld (o' := 0) Tryd.underlying63 rfl sz61 rfl rfl rfl) (by exact rfl) rfl), (by rintro H' m_ hH hm_ hu_ _ rfl; exact depK_nil <| s_d (m_ 1) rfl (d_loado (v := v0_m) ty61 rfl (.there (.there .here)) rfl rfl rfl rfl) (by exact rfl) rfl), (by rintro H' m_ hH hm_ hu_ _ rfl; exact depK_nil <| s_sl hm_ rfl rfl (o_append0 (kd := k_predict_State) (ys := m.f_States) Tryd.underlying61 Tryd.underlying61 ti177 rfl (by first | omega | (simp only [List.nil_append, List.length_cons, List.length_nil]; omega)) rfl rfl (h0_m.mono hH)) rfl (fun _ => .here) (by exact fun _ _ h_ => h_)), (fun H' m_ hH hm_ hu_ => depK_nil <| s_d (m_ 3) rfl (d_fld (o' := 1) Tryd.underlying63 rfl sz43 rfl rfl rfl) (by exact rfl) rfl), (by rintro H' m_ hH hm_ hu_ _ rfl; exact depK_nil <| s_d (m_ 4) rfl (d_loado (v := v1_m) ty43 rfl (.there (.there .here)) rfl rfl rfl rfl) (by exact rfl) rfl), trivial⟩ ?_
 intro H7 e8
 rintro _ _ rfl _ _ rfl v4 i5 (h6 : Sl k_predict_State H7 177 i5 v4 m.f_States) _ _ rfl _ _ rfl
 obtain ⟨c9, he⟩ := rq he
 refine w_a rfl (o_append0 (kd := (Kd.int .i64)) (ys := m.f_Chances) Tryd.underlying43 Tryd.underlying43 ti2 rfl (by first | omega | (simp only [List.nil_append, List.length_cons, List.length_nil]; omega)) rfl rfl (h1_m.mono e8)) ?_
 rintro v10 _ _ ⟨i11, rfl, rfl, h12⟩
 refine w_d rfl (d_build (cs' := [v4, v10]) Tryd.underlying63 zr63 rfl (by kernel_rfl) (parts := [(0, v4), (1, v10)]) rfl (.cons (place_of rfl sz61 rfl) h6.cells rfl (.here .done) (.cons (place_of rfl sz43 rfl) h12.cells rfl (.there (.here .done)) .nil))) <| w_a0 rfl (o_store (v := .agg ⟨[v4, v10]⟩) sz63 rfl rfl rfl rfl (one_cons (h6.one) (one_cons (h12.one) one_nil)) (.there (.there .here)) (.here (.here .done))) ?_
 rintro _ _ _ ⟨rfl, rfl, rfl⟩
 refine w_done <| w_freeze h6 (.there .here) ?_
 intro H13 e14 h15
 refine w_perm (List.perm_middle (a := i11) (l₁ := [_, _, _]) (l₂ := L)).symm ?_
 obtain rfl := Option.some.inj he
 refine w_return fn_58 rs_58 (.box (v := .agg ⟨[v4, v10]⟩) rfl ty63 rfl rfl (.there .here) rfl .nil) <| ⟨⟨[_, _, _], _, rfl, ⟨v4, v10, rfl, h15, h12.mono e14⟩⟩, hle.trans (e8.trans e14)⟩
def table_Track_own.outS (r : table_Track) (H : Hp) (it : Item') (v : Value) : Prop := ∃ v0 v1, v = .agg ⟨[.int .i64 r.f_ID, .int .i64 r.f_Life.f_Kind, .int .u32 r.f_Life.f_Seen, .int .i64 r.f_Life.f_Age, .int .i64 r.f_Life.f_Missed, v0, v1, .int .i64 r.f_Time]⟩ ∧ Ro k_predict_State H v0 r.f_Imm.f_States ∧ Sl (Kd.int .i64) H 2 it v1 r.f_Imm.f_Chances
theorem table_Track_own.callsS (k : Nat) {H : Hp} {L : Items} {t : table_Track} {v0_t : Value} {v1_t : Value} {r : table_Track} (he : table_Track_own.f k t = some r) (h0_t : Ro k_predict_State H v0_t t.f_Imm.f_States) (h1_t : Ro (Kd.int .i64) H v1_t t.f_Imm.f_Chances) : Ct Tryd.prog 59 ⟨[.agg ⟨[.int .i64 t.f_ID, .int .i64 t.f_Life.f_Kind, .int .u32 t.f_Life.f_Seen, .int .i64 t.f_Life.f_Age, .int .i64 t.f_Life.f_Missed, v0_t, v1_t, .int .i64 t.f_Time]⟩]⟩ H L (fun v H' L' => ∃ it, L' = it :: L ∧ H.le H' ∧ table_Track_own.outS r H' it v) := by
 refine ct_ownQ (Q := table_Track_own.outS r) ?_
 have hle : H.le H := .refl _
 unfold table_Track_own.f at he
 refine ct_enter (args := [_]) fn_59 rfl nt_59 rfl <| w_seq <| w_region rfl <| w_a rfl (o_box (v := .agg ⟨[.int .i64 t.f_ID, .int .i64 t.f_Life.f_Kind, .int .u32 t.f_Life.f_Seen, .int .i64 t.f_Life.f_Age, .int .i64 t.f_Life.f_Missed, v0_t, v1_t, .int .i64 t.f_Time]⟩) rfl rfl) ?_
 rintro _ _ _ ⟨b1, rfl, rfl, rfl⟩
 refine w_a rfl (o_alloc zr78 rfl) ?_
 rintro _ _ _ ⟨b2, rfl, rfl, rfl⟩
 refine w_done <| w_seq <| w_region rfl <| w_d rfl (d_fld (o' := 5) Tryd.underlying78 rfl sz63 rfl rfl rfl) <| w_d rfl (d_loado (v := .agg ⟨[v0_t, v1_t]⟩) ty63 rfl (.there .here) rfl rfl rfl rfl) ?_
 obtain ⟨y3, hy4, he⟩ := Option.bind_eq_some_iff.1 he
 refine w_a rfl (o_call co58 (vs := [.agg ⟨[v0_t, v1_t]⟩]) rfl (table_own.callsS k (m := t.f_Imm) hy4 h0_t h1_t)) ?_
 rintro _ H5 _ ⟨i0, rfl, e6, ⟨v7, v9, rfl, h8, h10⟩⟩
 refine w_perm (List.perm_middle (a := i0) (l₁ := [_, _]) (l₂ := L)).symm <| w_d rfl (d_fld (o' := 5) Tryd.underlying78 rfl sz63 rfl rfl rfl) <| w_a0 rfl (o_store (v := .agg ⟨[v7, v9]⟩) sz63 rfl rfl rfl rfl (one_cons (h8.one) (one_cons (h10.one) one_nil)) (.there .here) (.there (.there (.there (.there (.there (.here (.here .done)))))))) ?_
 rintro _ _ _ ⟨rfl, rfl, rfl⟩
 refine w_done <| w_seq <| w_region rfl <| w_d rfl (d_loado (v := .agg ⟨[.int .i64 t.f_ID, .int .i64 t.f_Life.f_Kind, .int .u32 t.f_Life.f_Seen, .int .i64 t.f_Life.f_Age, .int .i64 t.f_Life.f_Missed, v7, v9, .int .i64 t.f_Time]⟩) ty78 rfl (.there .here) rfl rfl rfl rfl) <| w_a0 rfl (o_store (v := .agg ⟨[.int .i64 t.f_ID, .int .i64 t.f_Life.f_Kind, .int .u32 t.f_Life.f_Seen, .int .i64 t.f_Life.f_Age, .int .i64 t.f_Life.f_Missed, v7, v9, .int .i64 t.f_Time]⟩) sz78 rfl rfl rfl rfl (one_cons rfl (one_cons rfl (one_cons rfl (one_cons rfl (one_cons rfl (one_cons (h8.one) (one_cons (h10.one) (one_cons rfl one_nil)))))))) .here (.here (.here (.here (.here (.here (.here (.here (.here .done))))))))) ?_
 rintro _ _ _ ⟨rfl, rfl, rfl⟩
 refine w_done ?_
 obtain rfl := Option.some.inj he
 refine w_return fn_59 rs_59 (.box (v := .agg ⟨[.int .i64 t.f_ID, .int .i64 t.f_Life.f_Kind, .int .u32 t.f_Life.f_Seen, .int .i64 t.f_Life.f_Age, .int .i64 t.f_Life.f_Missed, v7, v9, .int .i64 t.f_Time]⟩) rfl ty78 rfl rfl .here rfl .nil) <| ⟨⟨[_, _], _, rfl, ⟨v7, v9, rfl, h8, h10⟩⟩, hle.trans e6⟩
theorem ct_ownF {P : Program} {H : Hp} {L : Items} {f : FuncId} {args : Array Value} {Q : Hp → Items → Value → Prop} (h : Ct P f args H L (fun v H' L' => (∃ p q, L' = p ++ (q ++ L) ∧ Q H' q v) ∧ H.le H')) : Ct P f args H L (fun v H' L' => ∃ q, L' = q ++ L ∧ H.le H' ∧ Q H' q v) := by
 intro w hw cs
 obtain ⟨v, w', H', L', fr', a, b, c, d, ⟨p, q, rfl, hs⟩, e1⟩ := h w hw cs
 exact ⟨v, w', H', q ++ L, fr', a, b, c, d.unapp, q, rfl, e1, hs⟩
def table_Table_Tracks.outS (r : List table_Track) (H : Hp) (q : Items) (v : Value) : Prop := ∃ it F, q = it :: F ∧ SlF kf_table_Track H 78 it F v r
abbrev table_Table_Tracks.RS (H0 : Hp) (L : Items) (r : List table_Track) : Value → Hp → Items → Prop := fun v H' L' => (∃ p q, L' = p ++ (q ++ L) ∧ table_Table_Tracks.outS r H' q v) ∧ H0.le H'
structure table_Table_Tracks.OKS (h : table_Table_Tracks.Hs) : Prop where
 l0 : ∀ {H0 H : Hp} {L : Items} {r : (List table_Track)} {jk_ : Nat → Value} {out : List table_Track} {t11 : List table_Track} {t12 : Int} {t13 : Int} {v_out : Value} {v_t11 : Value} {i_out : Item'} {F : Items} (_ : H0.le H) (_he : h.l0 out t11 t12 t13 = some r) (_h_out : SlF kf_table_Track H 78 i_out F v_out out) (_h_t11 : Src k_table_Track H L v_t11 t11), Wp Tryd.prog 34 24 table_Table_Tracks.Kl0 (upd (upd (upd (upd (upd jk_ 2 (.slice none 0 0)) 3 (v_out)) 11 (v_t11)) 12 (.int .i64 t12)) 13 (.int .i64 t13)) H (i_out :: (F ++ L)) (table_Table_Tracks.RS H0 L r)
theorem table_Table_Tracks.b0_okS {k : Nat} {h : table_Table_Tracks.Hs} (hh : table_Table_Tracks.OKS h) {H0 H : Hp} {L : Items} {r : (List table_Track)} {jk_ : Nat → Value} {out : List table_Track} {t11 : List table_Track} {t12 : Int} {t13 : Int} {v_out : Value} {v_t11 : Value} {i_out : Item'} {F : Items} (hle : H0.le H) (he : table_Table_Tracks.b0 k h out t11 t12 t13 = some r) (h_out : SlF kf_table_Track H 78 i_out F v_out out) (h_t11 : Src k_table_Track H L v_t11 t11) : Wp Tryd.prog 34 24 table_Table_Tracks.Kl0 (upd (upd (upd (upd (upd jk_ 2 (.slice none 0 0)) 3 (v_out)) 11 (v_t11)) 12 (.int .i64 t12)) 13 (.int .i64 t13)) H (i_out :: (F ++ L)) (table_Table_Tracks.RS H0 L r) := by
 unfold table_Table_Tracks.b0 at he
 unfold table_Table_Tracks.Kl0
 refine w_seq <| w_region rfl <| w_d rfl (d_lss rfl rfl) <| w_done <| w_seq ?_
 rcases its he with ⟨c1, he⟩ | ⟨c1, he⟩
 ·
  refine w_then rfl (decide_eq_true c1) <| w_skip <| w_seq <| w_block <| w_seq <| w_region rfl ?_
  obtain ⟨c2, he⟩ := rq he
  refine w_d rfl (d_index (sz := 8) Tryd.underlying72 sz78 rfl h_t11.sg.th rfl c2) ?_
  obtain ⟨_, l3, r4⟩ := el_of (kd := k_table_Track) h_t11.sg.th c2
  obtain ⟨v5, v7, rfl, h6, h8⟩ := k_table_Track_out r4
  refine w_d rfl (d_load (v := .agg ⟨[.int .i64 ((rd t11 t13).f_ID), .int .i64 (((rd t11 t13).f_Life).f_Kind), .int .u32 (((rd t11 t13).f_Life).f_Seen), .int .i64 (((rd t11 t13).f_Life).f_Age), .int .i64 (((rd t11 t13).f_Life).f_Missed), v5, v7, .int .i64 ((rd t11 t13).f_Time)]⟩) (cs := [.int .i64 ((rd t11 t13).f_ID), .int .i64 (((rd t11 t13).f_Life).f_Kind), .int .u32 (((rd t11 t13).f_Life).f_Seen), .int .i64 (((rd t11 t13).f_Life).f_Age), .int .i64 (((rd t11 t13).f_Life).f_Missed), v5, v7, .int .i64 ((rd t11 t13).f_Time)]) ty78 rfl rfl (by decide) l3 rfl) <| w_a rfl (o_alloc zr78 rfl) ?_
  rintro _ _ _ ⟨b9, rfl, rfl, rfl⟩
  refine w_a0 rfl (o_store (v := .agg ⟨[.int .i64 ((rd t11 t13).f_ID), .int .i64 (((rd t11 t13).f_Life).f_Kind), .int .u32 (((rd t11 t13).f_Life).f_Seen), .int .i64 (((rd t11 t13).f_Life).f_Age), .int .i64 (((rd t11 t13).f_Life).f_Missed), v5, v7, .int .i64 ((rd t11 t13).f_Time)]⟩) sz78 rfl rfl rfl rfl (one_cons rfl (one_cons rfl (one_cons rfl (one_cons rfl (one_cons rfl (one_cons (h6.one) (one_cons (h8.one) (one_cons rfl one_nil)))))))) .here (.here (.here (.here (.here (.here (.here (.here (.here .done))))))))) ?_
  rintro _ _ _ ⟨rfl, rfl, rfl⟩
  refine w_done <| w_region rfl <| w_d rfl (d_move (v := v_out) rfl) <| w_d rfl (d_loado (v := .agg ⟨[.int .i64 ((rd t11 t13).f_ID), .int .i64 (((rd t11 t13).f_Life).f_Kind), .int .u32 (((rd t11 t13).f_Life).f_Seen), .int .i64 (((rd t11 t13).f_Life).f_Age), .int .i64 (((rd t11 t13).f_Life).f_Missed), v5, v7, .int .i64 ((rd t11 t13).f_Time)]⟩) ty78 rfl .here rfl rfl rfl rfl) ?_
  obtain ⟨y10, hy11, he⟩ := Option.bind_eq_some_iff.1 he
  refine w_a rfl (o_call co59 (vs := [.agg ⟨[.int .i64 ((rd t11 t13).f_ID), .int .i64 (((rd t11 t13).f_Life).f_Kind), .int .u32 (((rd t11 t13).f_Life).f_Seen), .int .i64 (((rd t11 t13).f_Life).f_Age), .int .i64 (((rd t11 t13).f_Life).f_Missed), v5, v7, .int .i64 ((rd t11 t13).f_Time)]⟩]) rfl (table_Track_own.callsS k (t := (rd t11 t13)) hy11 h6 h8)) ?_
  rintro _ H12 _ ⟨i0, rfl, e13, ⟨v14, v16, rfl, h15, h17⟩⟩
  refine w_a rfl (o_buildSlice' (kd := kf_table_Track.raw) (css := [[.int .i64 y10.f_ID, .int .i64 y10.f_Life.f_Kind, .int .u32 y10.f_Life.f_Seen, .int .i64 y10.f_Life.f_Age, .int .i64 y10.f_Life.f_Missed, v14, v16, .int .i64 y10.f_Time]]) (xs := [(y10, v16)]) (parts := [(0, .agg ⟨[.int .i64 y10.f_ID, .int .i64 y10.f_Life.f_Kind, .int .u32 y10.f_Life.f_Seen, .int .i64 y10.f_Life.f_Age, .int .i64 y10.f_Life.f_Missed, v14, v16, .int .i64 y10.f_Time]⟩)]) Tryd.underlying72 ti78 rfl ⟨_, _, rfl, rfl, rfl⟩ ⟨⟨⟨v14, rfl, h15⟩, h17.one⟩, trivial⟩ rfl (by decide)) ?_
  rintro v18 _ _ ⟨i19, rfl, rfl, h20⟩
  obtain ⟨c21, he⟩ := rq he
  refine w_a rfl (o_appendF (kf := kf_table_Track) (its := [i0]) (G := fun z_ => i19 :: i0 :: some (b9, .cells ⟨[.int .i64 ((rd t11 t13).f_ID), .int .i64 (((rd t11 t13).f_Life).f_Kind), .int .u32 (((rd t11 t13).f_Life).f_Seen), .int .i64 (((rd t11 t13).f_Life).f_Age), .int .i64 (((rd t11 t13).f_Life).f_Missed), v5, v7, .int .i64 ((rd t11 t13).f_Time)]⟩ 78 (0, 0)) :: z_ :: (F ++ L)) Tryd.underlying72 Tryd.underlying72 ti78 rfl (by first | omega | (simp only [List.nil_append, List.length_cons, List.length_nil]; omega)) rfl rfl (h_out.mono e13) (h20.src .here) ⟨i0, rfl, h17⟩ (fun _ => (.there (.there (.there .here))))) ?_
  rintro v22 _ _ ⟨i23, rfl, rfl, h24⟩
  refine w_perm (L' := i19 :: some (b9, .cells ⟨[.int .i64 ((rd t11 t13).f_ID), .int .i64 (((rd t11 t13).f_Life).f_Kind), .int .u32 (((rd t11 t13).f_Life).f_Seen), .int .i64 (((rd t11 t13).f_Life).f_Age), .int .i64 (((rd t11 t13).f_Life).f_Missed), v5, v7, .int .i64 ((rd t11 t13).f_Time)]⟩ 78 (0, 0)) :: i23 :: ((F ++ [i0]) ++ L)) (List.Perm.cons i19 (by rw [List.append_assoc]; exact (List.perm_middle (a := i0) (l₁ := some (b9, .cells ⟨[.int .i64 ((rd t11 t13).f_ID), .int .i64 (((rd t11 t13).f_Life).f_Kind), .int .u32 (((rd t11 t13).f_Life).f_Seen), .int .i64 (((rd t11 t13).f_Life).f_Age), .int .i64 (((rd t11 t13).f_Life).f_Missed), v5, v7, .int .i64 ((rd t11 t13).f_Time)]⟩ 78 (0, 0)) :: i23 :: F) (l₂ := L)).symm)) <| w_d rfl (d_assign (v := v22) rfl) <| w_done <| w_inBlock <| w_region rfl <| w_d rfl (d_add (c := w64 (t13 + 1)) rfl rfl rfl) <| w_d rfl (d_move (v := .int .i64 (w64 (t13 + 1))) rfl) <| w_done <| w_inLoop <| w_del (.there .here) <| w_del .here <| w_sl 2 (.slice none 0 0) rfl ?_
  refine w_sl 3 (v22) rfl <| w_sl 11 (v_t11) rfl <| w_sl 12 (.int .i64 t12) rfl <| w_sl 13 (.int .i64 (w64 (t13 + 1))) rfl <| hh.l0 (hle.trans e13) he h24 (h_t11.mono e13)
 ·
  refine w_else rfl (decide_eq_false c1) <| w_exit rfl <| w_seq <| w_region rfl <| w_d rfl (d_move (v := v_out) rfl) <| w_d rfl (d_assign (v := v_out) rfl) <| w_done ?_
  obtain rfl := Option.some.inj he
  refine w_return fn_34 rs_34 (.tmp (v := v_out) rfl .nil) <| ⟨⟨[], _, rfl, ⟨_, _, rfl, h_out⟩⟩, hle⟩
theorem table_Table_Tracks.okS : ∀ k, table_Table_Tracks.OKS (table_Table_Tracks.hs k)
 | 0 => ⟨(by intros; exact nomatch (show none = some _ from by assumption))⟩
 | k + 1 => ⟨table_Table_Tracks.b0_okS (k := k) (table_Table_Tracks.okS k)⟩
theorem table_Table_Tracks.callsS (k : Nat) {H : Hp} {L : Items} {t : table_Table} {v0_t : Value} {b_t : Nat} {b_t_q0 : Nat} {r : (List table_Track)} (he : table_Table_Tracks.f k t = some r) (h0_t : Src k_table_Track H L v0_t t.f_l) (hl_t : Lies H L ⟨b_t, 0, none⟩ [.int .i64 t.f_rule.f_Hits, .int .i64 t.f_rule.f_Window, .int .i64 t.f_rule.f_Misses, .int .i64 t.f_most, .pointer (some ⟨b_t_q0, 0, none⟩), v0_t]) (hl_t_q0 : Lies H L ⟨b_t_q0, 0, none⟩ [.int .i64 t.f_names.f_from, .int .i64 t.f_names.f_to, .int .i64 t.f_names.f_given.f_v]) : Ct Tryd.prog 34 ⟨[.pointer (some ⟨b_t, 0, none⟩)]⟩ H L (fun v H' L' => ∃ q, L' = q ++ L ∧ H.le H' ∧ table_Table_Tracks.outS r H' q v) := by
 refine ct_ownF (Q := table_Table_Tracks.outS r) ?_
 have hle : H.le H := .refl _
 have hh := table_Table_Tracks.okS k
 unfold table_Table_Tracks.f at he
 refine ct_enter (args := [_]) fn_34 rfl nt_34 rfl <| w_seq <| w_region rfl <| w_d rfl (d_assign (v := .slice none 0 0) rfl) <| w_done <| w_seq <| w_seq <| w_region rfl <| w_d rfl (d_move (v := .pointer (some ⟨b_t, 0, none⟩)) rfl) <| w_d rfl (d_eqptr (a := (some ⟨b_t, 0, none⟩)) Tryd.underlying56 rfl rfl) <| w_done <| w_else rfl rfl ?_
 refine w_skip <| w_seq <| w_region rfl <| w_d rfl (d_assign (v := .slice none 0 0) rfl) <| w_done <| w_seq <| w_seq <| w_region rfl <| w_d rfl (d_move (v := .pointer (some ⟨b_t, 0, none⟩)) rfl) <| w_d rfl (d_nilCheck (p := ⟨b_t, 0, none⟩) rfl) <| w_d rfl (d_fld (o' := 5) Tryd.underlying135 rfl sz72 rfl rfl rfl) <| w_d rfl (d_loadl (v := v0_t) ty72 rfl (hl_t) rfl rfl rfl rfl) ?_
 refine w_d rfl (d_len Tryd.underlying72 rfl h0_t) <| w_d rfl (d_move (v := .int .i64 0) rfl) <| w_done <| w_block <| w_loop <| w_none <| w_sl 2 (.slice none 0 0) rfl <| w_sl 3 (.slice none 0 0) rfl <| w_sl 11 (v0_t) rfl <| w_sl 12 (.int .i64 (t.f_l.length : Int)) rfl <| w_sl 13 (.int .i64 0) rfl <| hh.l0 (F := []) hle he (slf_nil _ _ _) h0_t
/-! ### (*radome/table.Table).at$1 -/
noncomputable def table_Table_at_1.C : Code := (Tryd.f81.body).getD .skip
def table_Table_at_1.out (r : Int) (H : Hp) (v : Value) : Prop := v = .int .i64 r
abbrev table_Table_at_1.R (H0 : Hp) (L : Items) (r : Int) : Value → Hp → Items → Prop := fun v H' L' => (∃ p, L' = p ++ L) ∧ H0.le H' ∧ table_Table_at_1.out r H' v
noncomputable def table_Table_at_1.f (k : Nat) (x : table_Track) (k_ : Int) : Option Int := if x.f_ID < k_ then (some ((-1))) else (if k_ < x.f_ID then (some (1)) else (some (0)))
theorem table_Table_at_1.mono : ∀ k y0 y1, LeO (table_Table_at_1.f k y0 y1) (table_Table_at_1.f (k + 1) y0 y1) := fun k _ _ => by unfold table_Table_at_1.f; exact (LeO.ite (LeO.refl _) (LeO.ite (LeO.refl _) (LeO.refl _)))
theorem table_Table_at_1.calls (k : Nat) {H : Hp} {L : Items} {x : table_Track} {k_ : Int} {v0_x : Value} {v1_x : Value} {r : Int} (he : table_Table_at_1.f k x k_ = some r) (h0_x : Ro k_predict_State H v0_x x.f_Imm.f_States) (h1_x : Ro (Kd.int .i64) H v1_x x.f_Imm.f_Chances) : Ct Tryd.prog 81 ⟨[.agg ⟨[.int .i64 x.f_ID, .int .i64 x.f_Life.f_Kind, .int .u32 x.f_Life.f_Seen, .int .i64 x.f_Life.f_Age, .int .i64 x.f_Life.f_Missed, v0_x, v1_x, .int .i64 x.f_Time]⟩, .int .i64 k_]⟩ H L (fun v H' L' => L = L' ∧ H = H' ∧ v = .int .i64 r) := by
 refine ct_outs (O := table_Table_at_1.out r) (fun _ _ h => h) ?_
 have hle : H.le H := .refl _
 unfold table_Table_at_1.f at he
 refine ct_enter (args := [_, _]) fn_81 rfl nt_81 rfl <| w_seq <| w_region rfl <| w_a rfl (o_box (v := .agg ⟨[.int .i64 x.f_ID, .int .i64 x.f_Life.f_Kind, .int .u32 x.f_Life.f_Seen, .int .i64 x.f_Life.f_Age, .int .i64 x.f_Life.f_Missed, v0_x, v1_x, .int .i64 x.f_Time]⟩) rfl rfl) ?_
 rintro _ _ _ ⟨b1, rfl, rfl, rfl⟩
 refine w_d rfl (d_assign (v := .int .i64 0) rfl) <| w_done <| w_seq <| w_block <| w_seq <| w_region rfl <| w_d rfl (d_fld (o' := 0) Tryd.underlying78 rfl sz2 rfl rfl rfl) <| w_d rfl (d_loado (v := .int .i64 x.f_ID) ty2 rfl .here rfl rfl rfl rfl) <| w_d rfl (d_move (v := .int .i64 k_) rfl) <| w_d rfl (d_lss rfl rfl) <| w_d rfl (d_assign (v := .bool (decide (x.f_ID < k_))) rfl) <| w_done ?_
 rcases its he with ⟨c2, he⟩ | ⟨c2, he⟩
 ·
  refine w_then rfl (decide_eq_true c2) <| w_seq <| w_region rfl <| w_d rfl (d_assign (v := .int .i64 (-1)) rfl) <| w_done ?_
  obtain rfl := Option.some.inj he
  refine w_return fn_81 rs_81 (.tmp (v := .int .i64 (-1)) rfl .nil) <| ⟨⟨[_], rfl⟩, hle, rfl⟩
 ·
  refine w_else rfl (decide_eq_false c2) <| w_seq <| w_region rfl <| w_d rfl (d_fld (o' := 0) Tryd.underlying78 rfl sz2 rfl rfl rfl) <| w_d rfl (d_loado (v := .int .i64 x.f_ID) ty2 rfl .here rfl rfl rfl rfl) <| w_d rfl (d_move (v := .int .i64 k_) rfl) <| w_d rfl (d_gtr rfl rfl) <| w_d rfl (d_assign (v := .bool (decide (k_ < x.f_ID))) rfl) <| w_done ?_
  rcases its he with ⟨c3, he⟩ | ⟨c3, he⟩
  ·
   refine w_then rfl (decide_eq_true c3) <| w_seq <| w_region rfl <| w_d rfl (d_assign (v := .int .i64 1) rfl) <| w_done ?_
   obtain rfl := Option.some.inj he
   refine w_return fn_81 rs_81 (.tmp (v := .int .i64 1) rfl .nil) <| ⟨⟨[_], rfl⟩, hle, rfl⟩
  ·
   refine w_else rfl (decide_eq_false c3) <| w_skip <| w_inBlock <| w_seq <| w_region rfl <| w_d rfl (d_assign (v := .int .i64 0) rfl) <| w_done ?_
   obtain rfl := Option.some.inj he
   refine w_return fn_81 rs_81 (.tmp (v := .int .i64 0) rfl .nil) <| ⟨⟨[_], rfl⟩, hle, rfl⟩
/-! ### slices.BinarySearchFunc[[]radome/table.Track,radome/table.Track,int64] -/
noncomputable def slices_BinarySearchFunc_table_Track_table_Track_int64_table_Table_at_1.C : Code := (Tryd.f80.body).getD .skip
def slices_BinarySearchFunc_table_Track_table_Track_int64_table_Table_at_1.out (r : Int × Bool) (H : Hp) (v : Value) : Prop := v = .tuple ⟨[.int .i64 r.1, .bool r.2]⟩
abbrev slices_BinarySearchFunc_table_Track_table_Track_int64_table_Table_at_1.R (H0 : Hp) (L : Items) (r : Int × Bool) : Value → Hp → Items → Prop := fun v H' L' => (∃ p, L' = p ++ L) ∧ H0.le H' ∧ slices_BinarySearchFunc_table_Track_table_Track_int64_table_Table_at_1.out r H' v
structure slices_BinarySearchFunc_table_Track_table_Track_int64_table_Table_at_1.Hs where
 l0 : (List table_Track) → Int → Int → Int → Int → Option (Int × Bool)
noncomputable def slices_BinarySearchFunc_table_Track_table_Track_int64_table_Table_at_1.b0 (k : Nat) (h : slices_BinarySearchFunc_table_Track_table_Track_int64_table_Table_at_1.Hs)  (x : List table_Track) (target : Int) (n : Int) (i : Int) (j_ : Int) : Option (Int × Bool) := if i < j_ then (if (0 : Int) ≤ w64 (((w64 (i + j_)) % 18446744073709551616) / 2) ∧ w64 (((w64 (i + j_)) % 18446744073709551616) / 2) < (x.length : Int) then ((table_Table_at_1.f k (rd x (w64 (((w64 (i + j_)) % 18446744073709551616) / 2))) target).bind fun y9 => if y9 < 0 then (h.l0 x target n (w64 ((w64 (((w64 (i + j_)) % 18446744073709551616) / 2)) + 1)) j_) else (h.l0 x target n i (w64 (((w64 (i + j_)) % 18446744073709551616) / 2)))) else none) else (if (decide (i < n)) = true → (0 : Int) ≤ i ∧ i < (x.length : Int) then ((gd (decide (i < n)) (table_Table_at_1.f k (rd x i) target) (0)).bind fun y27 => some (i, (decide (i < n)) && (decide (y27 = 0)))) else none)
noncomputable def slices_BinarySearchFunc_table_Track_table_Track_int64_table_Table_at_1.hs : Nat → slices_BinarySearchFunc_table_Track_table_Track_int64_table_Table_at_1.Hs
 | 0 => ⟨fun _ _ _ _ _ => none⟩
 | k + 1 => ⟨fun x0 x1 x2 x3 x4 => slices_BinarySearchFunc_table_Track_table_Track_int64_table_Table_at_1.b0 k (slices_BinarySearchFunc_table_Track_table_Track_int64_table_Table_at_1.hs k) x0 x1 x2 x3 x4⟩
noncomputable def slices_BinarySearchFunc_table_Track_table_Track_int64_table_Table_at_1.f (k : Nat) (x : List table_Track) (target : Int) : Option (Int × Bool) := (fun h : slices_BinarySearchFunc_table_Track_table_Track_int64_table_Table_at_1.Hs => h.l0 x target (x.length : Int) 0 (x.length : Int)) (slices_BinarySearchFunc_table_Track_table_Track_int64_table_Table_at_1.hs k)
structure slices_BinarySearchFunc_table_Track_table_Track_int64_table_Table_at_1.LE (h h' : slices_BinarySearchFunc_table_Track_table_Track_int64_table_Table_at_1.Hs) : Prop where
 l0 : ∀ y0 y1 y2 y3 y4, LeO (h.l0 y0 y1 y2 y3 y4) (h'.l0 y0 y1 y2 y3 y4)
theorem slices_BinarySearchFunc_table_Track_table_Track_int64_table_Table_at_1.b0_mono {k : Nat} {h h' : slices_BinarySearchFunc_table_Track_table_Track_int64_table_Table_at_1.Hs} (hl : slices_BinarySearchFunc_table_Track_table_Track_int64_table_Table_at_1.LE h h') : ∀ y0 y1 y2 y3 y4, LeO (slices_BinarySearchFunc_table_Track_table_Track_int64_table_Table_at_1.b0 k h y0 y1 y2 y3 y4) (slices_BinarySearchFunc_table_Track_table_Track_int64_table_Table_at_1.b0 (k + 1) h' y0 y1 y2 y3 y4) := fun _ _ _ _ _ => (LeO.ite (LeO.ite (LeO.bind (table_Table_at_1.mono k _ _) fun _ => LeO.ite (hl.l0 _ _ _ _ _) (hl.l0 _ _ _ _ _)) (LeO.refl _)) (LeO.ite (LeO.bind (LeO.gd (table_Table_at_1.mono k _ _)) fun _ => LeO.refl _) (LeO.refl _)))
theorem slices_BinarySearchFunc_table_Track_table_Track_int64_table_Table_at_1.hs_mono : ∀ k, slices_BinarySearchFunc_table_Track_table_Track_int64_table_Table_at_1.LE (slices_BinarySearchFunc_table_Track_table_Track_int64_table_Table_at_1.hs k) (slices_BinarySearchFunc_table_Track_table_Track_int64_table_Table_at_1.hs (k + 1))
 | 0 => ⟨fun _ _ _ _ _ => LeO.none _⟩
 | k + 1 => ⟨slices_BinarySearchFunc_table_Track_table_Track_int64_table_Table_at_1.b0_mono (k := k) (slices_BinarySearchFunc_table_Track_table_Track_int64_table_Table_at_1.hs_mono k)⟩
theorem slices_BinarySearchFunc_table_Track_table_Track_int64_table_Table_at_1.mono : ∀ k y0 y1, LeO (slices_BinarySearchFunc_table_Track_table_Track_int64_table_Table_at_1.f k y0 y1) (slices_BinarySearchFunc_table_Track_table_Track_int64_table_Table_at_1.f (k + 1) y0 y1) := fun k _ _ => have hl := slices_BinarySearchFunc_table_Track_table_Track_int64_table_Table_at_1.hs_mono k; by unfold slices_BinarySearchFunc_table_Track_table_Track_int64_table_Table_at_1.f; exact (hl.l0 _ _ _ _ _)
noncomputable def slices_BinarySearchFunc_table_Track_table_Track_int64_table_Table_at_1.Kl0 : List Item := .code (lopB (blkB (seqL (seqR (seqR (seqR slices_BinarySearchFunc_table_Track_table_Track_int64_table_Table_at_1.C)))))) :: .inLoop (lopB (blkB (seqL (seqR (seqR (seqR slices_BinarySearchFunc_table_Track_table_Track_int64_table_Table_at_1.C)))))) :: .inBlock 0 :: .code (seqR (seqR (seqR (seqR slices_BinarySearchFunc_table_Track_table_Track_int64_table_Table_at_1.C)))) :: []
structure slices_BinarySearchFunc_table_Track_table_Track_int64_table_Table_at_1.OK (h : slices_BinarySearchFunc_table_Track_table_Track_int64_table_Table_at_1.Hs) : Prop where
 l0 : ∀ {H0 H : Hp} {L : Items} {r : Int × Bool} {jk_ : Nat → Value} {x : List table_Track} {target : Int} {n : Int} {i : Int} {j_ : Int} {v_x : Value} (_ : H0.le H) (_he : h.l0 x target n i j_ = some r) (_h_x : Src k_table_Track H L v_x x), Wp Tryd.prog 80 49 slices_BinarySearchFunc_table_Track_table_Track_int64_table_Table_at_1.Kl0 (upd (upd (upd (upd (upd (upd (upd (upd jk_ 0 (v_x)) 1 (.int .i64 target)) 2 (.func (.func 81) #[] #[])) 6 (.int .i64 0)) 7 (.bool false)) 8 (.int .i64 n)) 9 (.int .i64 i)) 10 (.int .i64 j_)) H (L) (slices_BinarySearchFunc_table_Track_table_Track_int64_table_Table_at_1.R H0 L r)
theorem slices_BinarySearchFunc_table_Track_table_Track_int64_table_Table_at_1.b0_ok {k : Nat} {h : slices_BinarySearchFunc_table_Track_table_Track_int64_table_Table_at_1.Hs} (hh : slices_BinarySearchFunc_table_Track_table_Track_int64_table_Table_at_1.OK h) {H0 H : Hp} {L : Items} {r : Int × Bool} {jk_ : Nat → Value} {x : List table_Track} {target : Int} {n : Int} {i : Int} {j_ : Int} {v_x : Value} (hle : H0.le H) (he : slices_BinarySearchFunc_table_Track_table_Track_int64_table_Table_at_1.b0 k h x target n i j_ = some r) (h_x : Src k_table_Track H L v_x x) : Wp Tryd.prog 80 49 slices_BinarySearchFunc_table_Track_table_Track_int64_table_Table_at_1.Kl0 (upd (upd (upd (upd (upd (upd (upd (upd jk_ 0 (v_x)) 1 (.int .i64 target)) 2 (.func (.func 81) #[] #[])) 6 (.int .i64 0)) 7 (.bool false)) 8 (.int .i64 n)) 9 (.int .i64 i)) 10 (.int .i64 j_)) H (L) (slices_BinarySearchFunc_table_Track_table_Track_int64_table_Table_at_1.R H0 L r) := by
 unfold slices_BinarySearchFunc_table_Track_table_Track_int64_table_Table_at_1.b0 at he
 unfold slices_BinarySearchFunc_table_Track_table_Track_int64_table_Table_at_1.Kl0
 refine w_seq <| w_seq <| w_region rfl <| w_d rfl (d_move (v := .int .i64 i) rfl) <| w_d rfl (d_move (v := .int .i64 j_) rfl) <| w_d rfl (d_lss rfl rfl) <| w_done ?_
 rcases its he with ⟨c1, he⟩ | ⟨c1, he⟩
 ·
  refine w_then rfl (decide_eq_true c1) <| w_skip <| w_block <| w_seq <| w_region rfl <| w_d rfl (d_move (v := .int .i64 i) rfl) <| w_d rfl (d_move (v := .int .i64 j_) rfl) <| w_d rfl (d_add (c := w64 (i + j_)) rfl rfl rfl) <| w_d rfl (d_conv (c := (w64 (i + j_)) % 18446744073709551616) Tryd.underlying3 Tryd.underlying36 rfl rfl) <| w_d rfl (d_shr (c := ((w64 (i + j_)) % 18446744073709551616) / 2) rfl rfl (by decide) rfl) <| w_d rfl (d_conv (c := w64 (((w64 (i + j_)) % 18446744073709551616) / 2)) Tryd.underlying36 Tryd.underlying3 rfl rfl) <| w_d rfl (d_assign (v := .int .i64 (w64 (((w64 (i + j_)) % 18446744073709551616) / 2))) rfl) ?_
  refine w_done <| w_seq <| w_region rfl <| w_d rfl (d_move (v := .func (.func 81) #[] #[]) rfl) <| w_d rfl (d_move (v := v_x) rfl) <| w_d rfl (d_move (v := .int .i64 (w64 (((w64 (i + j_)) % 18446744073709551616) / 2))) rfl) ?_
  obtain ⟨c2, he⟩ := rq he
  refine w_d rfl (d_index (sz := 8) Tryd.underlying72 sz78 rfl h_x rfl c2) ?_
  obtain ⟨_, l3, r4⟩ := el_of (kd := k_table_Track) h_x c2
  obtain ⟨v5, v7, rfl, h6, h8⟩ := k_table_Track_out r4
  refine w_d rfl (d_load (v := .agg ⟨[.int .i64 ((rd x (w64 (((w64 (i + j_)) % 18446744073709551616) / 2))).f_ID), .int .i64 (((rd x (w64 (((w64 (i + j_)) % 18446744073709551616) / 2))).f_Life).f_Kind), .int .u32 (((rd x (w64 (((w64 (i + j_)) % 18446744073709551616) / 2))).f_Life).f_Seen), .int .i64 (((rd x (w64 (((w64 (i + j_)) % 18446744073709551616) / 2))).f_Life).f_Age), .int .i64 (((rd x (w64 (((w64 (i + j_)) % 18446744073709551616) / 2))).f_Life).f_Missed), v5, v7, .int .i64 ((rd x (w64 (((w64 (i + j_)) % 18446744073709551616) / 2))).f_Time)]⟩) (cs := [.int .i64 ((rd x (w64 (((w64 (i + j_)) % 18446744073709551616) / 2))).f_ID), .int .i64 (((rd x (w64 (((w64 (i + j_)) % 18446744073709551616) / 2))).f_Life).f_Kind), .int .u32 (((rd x (w64 (((w64 (i + j_)) % 18446744073709551616) / 2))).f_Life).f_Seen), .int .i64 (((rd x (w64 (((w64 (i + j_)) % 18446744073709551616) / 2))).f_Life).f_Age), .int .i64 (((rd x (w64 (((w64 (i + j_)) % 18446744073709551616) / 2))).f_Life).f_Missed), v5, v7, .int .i64 ((rd x (w64 (((w64 (i + j_)) % 18446744073709551616) / 2))).f_Time)]) ty78 rfl rfl (by decide) l3 rfl) <| w_d rfl (d_move (v := .int .i64 target) rfl) ?_
  obtain ⟨y9, hy10, he⟩ := Option.bind_eq_some_iff.1 he
  refine w_d rfl (call_d (o_callv rfl co81 (vs := [.agg ⟨[.int .i64 ((rd x (w64 (((w64 (i + j_)) % 18446744073709551616) / 2))).f_ID), .int .i64 (((rd x (w64 (((w64 (i + j_)) % 18446744073709551616) / 2))).f_Life).f_Kind), .int .u32 (((rd x (w64 (((w64 (i + j_)) % 18446744073709551616) / 2))).f_Life).f_Seen), .int .i64 (((rd x (w64 (((w64 (i + j_)) % 18446744073709551616) / 2))).f_Life).f_Age), .int .i64 (((rd x (w64 (((w64 (i + j_)) % 18446744073709551616) / 2))).f_Life).f_Missed), v5, v7, .int .i64 ((rd x (w64 (((w64 (i + j_)) % 18446744073709551616) / 2))).f_Time)]⟩, .int .i64 target]) rfl (table_Table_at_1.calls k (x := (rd x (w64 (((w64 (i + j_)) % 18446744073709551616) / 2)))) hy10 h6 h8))) <| w_d rfl (d_lss rfl rfl) <| w_done ?_
  rcases its he with ⟨c13, he⟩ | ⟨c13, he⟩
  ·
   refine w_then rfl (decide_eq_true c13) <| w_region rfl <| w_d rfl (d_move (v := .int .i64 (w64 (((w64 (i + j_)) % 18446744073709551616) / 2))) rfl) <| w_d rfl (d_add (c := w64 ((w64 (((w64 (i + j_)) % 18446744073709551616) / 2)) + 1)) rfl rfl rfl) <| w_d rfl (d_assign (v := .int .i64 (w64 ((w64 (((w64 (i + j_)) % 18446744073709551616) / 2)) + 1))) rfl) <| w_done <| w_inBlock <| w_inLoop <| w_sl 0 (v_x) rfl <| w_sl 1 (.int .i64 target) rfl <| w_sl 2 (.func (.func 81) #[] #[]) rfl <| w_sl 6 (.int .i64 0) rfl ?_
   refine w_sl 7 (.bool false) rfl <| w_sl 8 (.int .i64 n) rfl <| w_sl 9 (.int .i64 (w64 ((w64 (((w64 (i + j_)) % 18446744073709551616) / 2)) + 1))) rfl <| w_sl 10 (.int .i64 j_) rfl <| hh.l0 hle he h_x
  ·
   refine w_else rfl (decide_eq_false c13) <| w_region rfl <| w_d rfl (d_move (v := .int .i64 (w64 (((w64 (i + j_)) % 18446744073709551616) / 2))) rfl) <| w_d rfl (d_assign (v := .int .i64 (w64 (((w64 (i + j_)) % 18446744073709551616) / 2))) rfl) <| w_done <| w_inBlock <| w_inLoop <| w_sl 0 (v_x) rfl <| w_sl 1 (.int .i64 target) rfl <| w_sl 2 (.func (.func 81) #[] #[]) rfl <| w_sl 6 (.int .i64 0) rfl <| w_sl 7 (.bool false) rfl ?_
   refine w_sl 8 (.int .i64 n) rfl <| w_sl 9 (.int .i64 i) rfl <| w_sl 10 (.int .i64 (w64 (((w64 (i + j_)) % 18446744073709551616) / 2))) rfl <| hh.l0 hle he h_x
 ·
  refine w_else rfl (decide_eq_false c1) <| w_exit rfl <| w_seq <| w_region rfl <| w_d rfl (d_move (v := .int .i64 i) rfl) <| w_d rfl (d_move (v := .int .i64 i) rfl) <| w_d rfl (d_move (v := .int .i64 n) rfl) <| w_d rfl (d_lss rfl rfl) <| w_d rfl (d_move (v := .bool (decide (i < n))) rfl) <| w_g (g := decide (i < n)) rfl rfl rfl wn_t (fun g14 => d_move (v := .func (.func 81) #[] #[]) rfl) <| w_g (g := decide (i < n)) rfl rfl rfl wn_t (fun g15 => d_move (v := v_x) rfl) <| w_g (g := decide (i < n)) rfl rfl rfl wn_t (fun g16 => d_move (v := .int .i64 i) rfl) ?_
  obtain ⟨c18, he⟩ := rq he
  refine w_g (g := decide (i < n)) rfl rfl rfl wn_t (fun g17 => d_index (sz := 8) Tryd.underlying72 sz78 (cvt g17) h_x (cvt g17) (c18 g17)) ?_
  obtain ⟨v21, v23, l20, h22, h24⟩ : ∃ v21 v23 : Value, ((decide (i < n)) = true → Lies H L (pel v_x i 8) [.int .i64 ((rd x i).f_ID), .int .i64 (((rd x i).f_Life).f_Kind), .int .u32 (((rd x i).f_Life).f_Seen), .int .i64 (((rd x i).f_Life).f_Age), .int .i64 (((rd x i).f_Life).f_Missed), v21, v23, .int .i64 ((rd x i).f_Time)]) ∧ ((decide (i < n)) = true → Ro k_predict_State H v21 (((rd x i).f_Imm).f_States)) ∧ ((decide (i < n)) = true → Ro (Kd.int .i64) H v23 (((rd x i).f_Imm).f_Chances)) := if g_ : (decide (i < n)) = true then (by obtain ⟨_, l_, r_⟩ := el_of (kd := k_table_Track) h_x (c18 g_); obtain ⟨v21, v23, rfl, h22, h24⟩ := k_table_Track_out r_; exact ⟨v21, v23, fun _ => l_, fun _ => h22, fun _ => h24⟩) else ⟨undef, undef, fun h_ => absurd h_ g_, fun h_ => absurd h_ g_, fun h_ => absurd h_ g_⟩
  refine w_g (g := decide (i < n)) rfl rfl rfl wn_t (fun g19 => d_load (v := .agg ⟨[.int .i64 ((rd x i).f_ID), .int .i64 (((rd x i).f_Life).f_Kind), .int .u32 (((rd x i).f_Life).f_Seen), .int .i64 (((rd x i).f_Life).f_Age), .int .i64 (((rd x i).f_Life).f_Missed), v21, v23, .int .i64 ((rd x i).f_Time)]⟩) (cs := [.int .i64 ((rd x i).f_ID), .int .i64 (((rd x i).f_Life).f_Kind), .int .u32 (((rd x i).f_Life).f_Seen), .int .i64 (((rd x i).f_Life).f_Age), .int .i64 (((rd x i).f_Life).f_Missed), v21, v23, .int .i64 ((rd x i).f_Time)]) ty78 (cvt g19) rfl (by decide) ((l20 g19)) rfl) <| w_g (g := decide (i < n)) rfl rfl rfl wn_t (fun g25 => d_move (v := .int .i64 target) rfl) ?_
  obtain ⟨y27, hy28, he⟩ := Option.bind_eq_some_iff.1 he
  refine w_g (g := decide (i < n)) rfl rfl rfl wn_t (fun g26 => call_d (o_callv (by exact (cvt g26)) co81 (vs := [.agg ⟨[.int .i64 ((rd x i).f_ID), .int .i64 (((rd x i).f_Life).f_Kind), .int .u32 (((rd x i).f_Life).f_Seen), .int .i64 (((rd x i).f_Life).f_Age), .int .i64 (((rd x i).f_Life).f_Missed), v21, v23, .int .i64 ((rd x i).f_Time)]⟩, .int .i64 target]) (acons (cvt g26) (acons (cvt g26) (anil))) (table_Table_at_1.calls k (x := (rd x i)) (gd_t g26 hy28) (h22 g26) (h24 g26)))) <| w_g (g := decide (i < n)) rfl rfl rfl wn_t (fun g31 => d_eql (cvt g31) rfl) <| w_d rfl (d_and' (b := (decide (i < n))) (p := (decide (y27 = 0))) rfl rfl rfl) <| w_d rfl (d_assign (v := .int .i64 i) rfl) <| w_d rfl (d_assign (v := .bool ((decide (i < n)) && (decide (y27 = 0)))) rfl) <| w_done ?_
  obtain rfl := Option.some.inj he
  refine w_return fn_80 rs_80 (.tmp (v := .int .i64 i) rfl (.tmp (v := .bool ((decide (i < n)) && (decide (y27 = 0)))) rfl .nil)) <| ⟨⟨[], rfl⟩, hle, rfl⟩
theorem slices_BinarySearchFunc_table_Track_table_Track_int64_table_Table_at_1.ok : ∀ k, slices_BinarySearchFunc_table_Track_table_Track_int64_table_Table_at_1.OK (slices_BinarySearchFunc_table_Track_table_Track_int64_table_Table_at_1.hs k)
 | 0 => ⟨(by intros; exact nomatch (show none = some _ from by assumption))⟩
 | k + 1 => ⟨slices_BinarySearchFunc_table_Track_table_Track_int64_table_Table_at_1.b0_ok (k := k) (slices_BinarySearchFunc_table_Track_table_Track_int64_table_Table_at_1.ok k)⟩
theorem slices_BinarySearchFunc_table_Track_table_Track_int64_table_Table_at_1.calls (k : Nat) {H : Hp} {L : Items} {x : List table_Track} {target : Int} {v0_x : Value} {r : Int × Bool} (he : slices_BinarySearchFunc_table_Track_table_Track_int64_table_Table_at_1.f k x target = some r) (h0_x : Src k_table_Track H L v0_x x) : Ct Tryd.prog 80 ⟨[v0_x, .int .i64 target, .func (.func 81) #[] #[]]⟩ H L (fun v H' L' => L = L' ∧ H = H' ∧ v = .tuple ⟨[.int .i64 r.1, .bool r.2]⟩) := by
 refine ct_outs (O := slices_BinarySearchFunc_table_Track_table_Track_int64_table_Table_at_1.out r) (fun _ _ h => h) ?_
 have hle : H.le H := .refl _
 have hh := slices_BinarySearchFunc_table_Track_table_Track_int64_table_Table_at_1.ok k
 unfold slices_BinarySearchFunc_table_Track_table_Track_int64_table_Table_at_1.f at he
 refine ct_enter (args := [_, _, _]) fn_80 rfl nt_80 rfl <| w_seq <| w_region rfl <| w_d rfl (d_assign (v := .int .i64 0) rfl) <| w_d rfl (d_assign (v := .bool false) rfl) <| w_done <| w_seq <| w_region rfl <| w_d rfl (d_move (v := v0_x) rfl) <| w_d rfl (d_len Tryd.underlying72 rfl h0_x) <| w_d rfl (d_assign (v := .int .i64 (x.length : Int)) rfl) <| w_done ?_
 refine w_seq <| w_region rfl <| w_d rfl (d_move (v := .int .i64 (x.length : Int)) rfl) <| w_d rfl (d_assign (v := .int .i64 0) rfl) <| w_d rfl (d_assign (v := .int .i64 (x.length : Int)) rfl) <| w_done <| w_seq <| w_block <| w_loop <| w_sl 0 (v0_x) rfl <| w_sl 1 (.int .i64 target) rfl <| w_sl 2 (.func (.func 81) #[] #[]) rfl ?_
 refine w_sl 6 (.int .i64 0) rfl <| w_sl 7 (.bool false) rfl <| w_sl 8 (.int .i64 (x.length : Int)) rfl <| w_sl 9 (.int .i64 0) rfl <| w_sl 10 (.int .i64 (x.length : Int)) rfl <| hh.l0 hle he h0_x
/-! ### (*radome/table.Table).at -/
noncomputable def table_Table_at.C : Code := (Tryd.f60.body).getD .skip
def table_Table_at.out (r : Int × Bool) (H : Hp) (v : Value) : Prop := v = .tuple ⟨[.int .i64 r.1, .bool r.2]⟩
abbrev table_Table_at.R (H0 : Hp) (L : Items) (r : Int × Bool) : Value → Hp → Items → Prop := fun v H' L' => (∃ p, L' = p ++ L) ∧ H0.le H' ∧ table_Table_at.out r H' v
noncomputable def table_Table_at.f (k : Nat) (t : table_Table) (id_ : Int) : Option (Int × Bool) := (slices_BinarySearchFunc_table_Track_table_Track_int64_table_Table_at_1.f k t.f_l id_).bind fun y1 => some (y1.1, y1.2)
theorem table_Table_at.mono : ∀ k y0 y1, LeO (table_Table_at.f k y0 y1) (table_Table_at.f (k + 1) y0 y1) := fun k _ _ => by unfold table_Table_at.f; exact (LeO.bind (slices_BinarySearchFunc_table_Track_table_Track_int64_table_Table_at_1.mono k _ _) fun _ => LeO.refl _)
theorem table_Table_at.calls (k : Nat) {H : Hp} {L : Items} {t : table_Table} {id_ : Int} {v0_t : Value} {b_t : Nat} {b_t_q0 : Nat} {r : Int × Bool} (he : table_Table_at.f k t id_ = some r) (h0_t : Src k_table_Track H L v0_t t.f_l) (hl_t : Lies H L ⟨b_t, 0, none⟩ [.int .i64 t.f_rule.f_Hits, .int .i64 t.f_rule.f_Window, .int .i64 t.f_rule.f_Misses, .int .i64 t.f_most, .pointer (some ⟨b_t_q0, 0, none⟩), v0_t]) (hl_t_q0 : Lies H L ⟨b_t_q0, 0, none⟩ [.int .i64 t.f_names.f_from, .int .i64 t.f_names.f_to, .int .i64 t.f_names.f_given.f_v]) : Ct Tryd.prog 60 ⟨[.pointer (some ⟨b_t, 0, none⟩), .int .i64 id_]⟩ H L (fun v H' L' => L = L' ∧ H = H' ∧ v = .tuple ⟨[.int .i64 r.1, .bool r.2]⟩) := by
 refine ct_outs (O := table_Table_at.out r) (fun _ _ h => h) ?_
 have hle : H.le H := .refl _
 unfold table_Table_at.f at he
 refine ct_enter (args := [_, _]) fn_60 rfl nt_60 rfl <| w_seq <| w_region rfl <| w_d rfl (d_assign (v := .int .i64 0) rfl) <| w_d rfl (d_assign (v := .bool false) rfl) <| w_done <| w_seq <| w_region rfl <| w_d rfl (d_move (v := .pointer (some ⟨b_t, 0, none⟩)) rfl) <| w_d rfl (d_nilCheck (p := ⟨b_t, 0, none⟩) rfl) <| w_d rfl (d_fld (o' := 5) Tryd.underlying135 rfl sz72 rfl rfl rfl) <| w_d rfl (d_loadl (v := v0_t) ty72 rfl (hl_t) rfl rfl rfl rfl) ?_
 refine w_d rfl (d_move (v := .int .i64 id_) rfl) ?_
 obtain ⟨y1, hy2, he⟩ := Option.bind_eq_some_iff.1 he
 refine w_d rfl (call_d (o_call co80 (vs := [v0_t, .int .i64 id_, .func (.func 81) #[] #[]]) rfl (slices_BinarySearchFunc_table_Track_table_Track_int64_table_Table_at_1.calls k hy2 h0_t))) <| w_d rfl (d_ext (vs := [.int .i64 y1.1, .bool y1.2]) rfl rfl) <| w_d rfl (d_ext (vs := [.int .i64 y1.1, .bool y1.2]) rfl rfl) <| w_d rfl (d_assign (v := .int .i64 y1.1) rfl) <| w_d rfl (d_assign (v := .bool y1.2) rfl) <| w_done ?_
 obtain rfl := Option.some.inj he
 refine w_return fn_60 rs_60 (.tmp (v := .int .i64 y1.1) rfl (.tmp (v := .bool y1.2) rfl .nil)) <| ⟨⟨[], rfl⟩, hle, rfl⟩
/-! ### (*radome/table.Table).Find -/
noncomputable def table_Table_Find.C : Code := (Tryd.f35.body).getD .skip
def table_Table_Find.out (r : table_Track × (Option Int)) (H : Hp) (v : Value) : Prop := ∃ v0, ∃ v1, v = .tuple ⟨[.agg ⟨[.int .i64 r.1.f_ID, .int .i64 r.1.f_Life.f_Kind, .int .u32 r.1.f_Life.f_Seen, .int .i64 r.1.f_Life.f_Age, .int .i64 r.1.f_Life.f_Missed, v0, v1, .int .i64 r.1.f_Time]⟩, errV 106 r.2]⟩ ∧ Ro k_predict_State H v0 r.1.f_Imm.f_States ∧ Ro (Kd.int .i64) H v1 r.1.f_Imm.f_Chances
theorem table_Table_Find.out_mono (r : table_Track × (Option Int)) {H H' : Hp} {v : Value} (hle : H.le H') (h : table_Table_Find.out r H v) : table_Table_Find.out r H' v := by
 obtain ⟨v0, v1, rfl, h0, h1⟩ := h; exact ⟨v0, v1, rfl, h0.mono hle, h1.mono hle⟩
abbrev table_Table_Find.R (H0 : Hp) (L : Items) (r : table_Track × (Option Int)) : Value → Hp → Items → Prop := fun v H' L' => (∃ p, L' = p ++ L) ∧ H0.le H' ∧ table_Table_Find.out r H' v
noncomputable def table_Table_Find.f (k : Nat) (t : table_Table) (id_ : Int) : Option (table_Track × (Option Int)) := (table_Table_at.f k t id_).bind fun y2 => if (!y2.2) = true then (some ((⟨0, (⟨0, 0, 0, 0⟩ : life_Life), (⟨[], []⟩ : imm_Imm), 0⟩ : table_Track), some 8)) else (if (0 : Int) ≤ y2.1 ∧ y2.1 < (t.f_l.length : Int) then ((table_Track_own.f k (rd t.f_l y2.1)).bind fun y14 => some (y14, none)) else none)
theorem table_Table_Find.mono : ∀ k y0 y1, LeO (table_Table_Find.f k y0 y1) (table_Table_Find.f (k + 1) y0 y1) := fun k _ _ => by unfold table_Table_Find.f; exact (LeO.bind (table_Table_at.mono k _ _) fun _ => LeO.ite (LeO.refl _) (LeO.ite (LeO.bind (table_Track_own.mono k _) fun _ => LeO.refl _) (LeO.refl _)))
theorem table_Table_Find.calls (k : Nat) {H : Hp} {L : Items} {t : table_Table} {id_ : Int} {v0_t : Value} {b_t : Nat} {b_t_q0 : Nat} {r : table_Track × (Option Int)} (he : table_Table_Find.f k t id_ = some r) (h0_t : Src k_table_Track H L v0_t t.f_l) (hl_t : Lies H L ⟨b_t, 0, none⟩ [.int .i64 t.f_rule.f_Hits, .int .i64 t.f_rule.f_Window, .int .i64 t.f_rule.f_Misses, .int .i64 t.f_most, .pointer (some ⟨b_t_q0, 0, none⟩), v0_t]) (hl_t_q0 : Lies H L ⟨b_t_q0, 0, none⟩ [.int .i64 t.f_names.f_from, .int .i64 t.f_names.f_to, .int .i64 t.f_names.f_given.f_v]) : Ct Tryd.prog 35 ⟨[.pointer (some ⟨b_t, 0, none⟩), .int .i64 id_]⟩ H L (fun v H' L' => L = L' ∧ H.le H' ∧ table_Table_Find.out r H' v) := by
 refine ct_out (O := table_Table_Find.out r) ?_
 have hle : H.le H := .refl _
 unfold table_Table_Find.f at he
 refine ct_enter (args := [_, _]) fn_35 rfl nt_35 rfl <| w_seq <| w_region rfl <| w_a rfl (o_alloc zr78 rfl) ?_
 rintro _ _ _ ⟨b1, rfl, rfl, rfl⟩
 refine w_d rfl (d_assign (v := errV 106 none) rfl) <| w_done <| w_seq <| w_seq <| w_region rfl <| w_d rfl (d_move (v := .pointer (some ⟨b_t, 0, none⟩)) rfl) <| w_d rfl (d_eqptr (a := (some ⟨b_t, 0, none⟩)) Tryd.underlying56 rfl rfl) <| w_done <| w_else rfl rfl <| w_skip <| w_seq <| w_region rfl ?_
 refine w_d rfl (d_move (v := .pointer (some ⟨b_t, 0, none⟩)) rfl) <| w_d rfl (d_move (v := .int .i64 id_) rfl) ?_
 obtain ⟨y2, hy3, he⟩ := Option.bind_eq_some_iff.1 he
 refine w_d rfl (call_d (o_call co60 (vs := [.pointer (some ⟨b_t, 0, none⟩), .int .i64 id_]) rfl (table_Table_at.calls k (t := t) hy3 h0_t.th (hl_t).th (hl_t_q0).th))) <| w_d rfl (d_move (v := .tuple ⟨[.int .i64 y2.1, .bool y2.2]⟩) rfl) <| w_d rfl (d_ext (vs := [.int .i64 y2.1, .bool y2.2]) rfl rfl) <| w_d rfl (d_ext (vs := [.int .i64 y2.1, .bool y2.2]) rfl rfl) <| w_d rfl (d_assign (v := .int .i64 y2.1) rfl) <| w_d rfl (d_assign (v := .bool y2.2) rfl) <| w_done <| w_seq <| w_seq <| w_region rfl <| w_d rfl (d_move (v := .bool y2.2) rfl) <| w_d rfl (d_not (b := y2.2) rfl) ?_
 refine w_done ?_
 rcases its he with ⟨c6, he⟩ | ⟨c6, he⟩
 ·
  refine w_then rfl c6 <| w_seq <| w_region rfl <| w_d rfl (d_build (cs' := [.int .i64 0, .int .i64 0, .int .u32 0, .int .i64 0, .int .i64 0, .slice none 0 0, .slice none 0 0, .int .i64 0]) Tryd.underlying78 zr78 rfl (by kernel_rfl) (parts := []) rfl .nil) <| w_d rfl (d_iface (v := .int .i64 8) Tryd.underlying106 rfl rfl) <| w_a0 rfl (o_store (v := .agg ⟨[.int .i64 0, .int .i64 0, .int .u32 0, .int .i64 0, .int .i64 0, .slice none 0 0, .slice none 0 0, .int .i64 0]⟩) sz78 rfl rfl rfl rfl (one_cons rfl (one_cons rfl (one_cons rfl (one_cons rfl (one_cons rfl (one_cons rfl (one_cons rfl (one_cons rfl one_nil)))))))) .here (.here (.here (.here (.here (.here (.here (.here (.here .done))))))))) ?_
  rintro _ _ _ ⟨rfl, rfl, rfl⟩
  refine w_d rfl (d_assign (v := errV 106 (some 8)) rfl) <| w_done ?_
  obtain rfl := Option.some.inj he
  refine w_return fn_35 rs_35 (.box (v := .agg ⟨[.int .i64 0, .int .i64 0, .int .u32 0, .int .i64 0, .int .i64 0, .slice none 0 0, .slice none 0 0, .int .i64 0]⟩) rfl ty78 rfl rfl .here rfl (.tmp (v := errV 106 (some 8)) rfl .nil)) <| ⟨⟨[_], rfl⟩, hle, ⟨.slice none 0 0, .slice none 0 0, rfl, (ro_nil _ _), (ro_nil _ _)⟩⟩
 ·
  refine w_else rfl (Bool.eq_false_iff.2 c6) <| w_skip <| w_seq <| w_region rfl <| w_d rfl (d_move (v := .pointer (some ⟨b_t, 0, none⟩)) rfl) <| w_d rfl (d_nilCheck (p := ⟨b_t, 0, none⟩) rfl) <| w_d rfl (d_fld (o' := 5) Tryd.underlying135 rfl sz72 rfl rfl rfl) <| w_d rfl (d_loadl (v := v0_t) ty72 rfl (hl_t).th rfl rfl rfl rfl) <| w_d rfl (d_move (v := .int .i64 y2.1) rfl) ?_
  obtain ⟨c7, he⟩ := rq he
  refine w_d rfl (d_index (sz := 8) Tryd.underlying72 sz78 rfl h0_t.th rfl c7) ?_
  obtain ⟨_, l8, r9⟩ := el_of (kd := k_table_Track) h0_t.th c7
  obtain ⟨v10, v12, rfl, h11, h13⟩ := k_table_Track_out r9
  refine w_d rfl (d_load (v := .agg ⟨[.int .i64 ((rd t.f_l y2.1).f_ID), .int .i64 (((rd t.f_l y2.1).f_Life).f_Kind), .int .u32 (((rd t.f_l y2.1).f_Life).f_Seen), .int .i64 (((rd t.f_l y2.1).f_Life).f_Age), .int .i64 (((rd t.f_l y2.1).f_Life).f_Missed), v10, v12, .int .i64 ((rd t.f_l y2.1).f_Time)]⟩) (cs := [.int .i64 ((rd t.f_l y2.1).f_ID), .int .i64 (((rd t.f_l y2.1).f_Life).f_Kind), .int .u32 (((rd t.f_l y2.1).f_Life).f_Seen), .int .i64 (((rd t.f_l y2.1).f_Life).f_Age), .int .i64 (((rd t.f_l y2.1).f_Life).f_Missed), v10, v12, .int .i64 ((rd t.f_l y2.1).f_Time)]) ty78 rfl rfl (by decide) l8 rfl) ?_
  obtain ⟨y14, hy15, he⟩ := Option.bind_eq_some_iff.1 he
  refine w_a rfl (o_call co59 (vs := [.agg ⟨[.int .i64 ((rd t.f_l y2.1).f_ID), .int .i64 (((rd t.f_l y2.1).f_Life).f_Kind), .int .u32 (((rd t.f_l y2.1).f_Life).f_Seen), .int .i64 (((rd t.f_l y2.1).f_Life).f_Age), .int .i64 (((rd t.f_l y2.1).f_Life).f_Missed), v10, v12, .int .i64 ((rd t.f_l y2.1).f_Time)]⟩]) rfl (table_Track_own.calls k (t := (rd t.f_l y2.1)) hy15 h11 h13)) ?_
  rintro _ H16 _ ⟨rfl, e17, ⟨v18, v20, rfl, h19, h21⟩⟩
  refine w_a0 rfl (o_store (v := .agg ⟨[.int .i64 y14.f_ID, .int .i64 y14.f_Life.f_Kind, .int .u32 y14.f_Life.f_Seen, .int .i64 y14.f_Life.f_Age, .int .i64 y14.f_Life.f_Missed, v18, v20, .int .i64 y14.f_Time]⟩) sz78 rfl rfl rfl rfl (one_cons rfl (one_cons rfl (one_cons rfl (one_cons rfl (one_cons rfl (one_cons (h19.one) (one_cons (h21.one) (one_cons rfl one_nil)))))))) .here (.here (.here (.here (.here (.here (.here (.here (.here .done))))))))) ?_
  rintro _ _ _ ⟨rfl, rfl, rfl⟩
  refine w_d rfl (d_assign (v := errV 106 none) rfl) <| w_done ?_
  obtain rfl := Option.some.inj he
  refine w_return fn_35 rs_35 (.box (v := .agg ⟨[.int .i64 y14.f_ID, .int .i64 y14.f_Life.f_Kind, .int .u32 y14.f_Life.f_Seen, .int .i64 y14.f_Life.f_Age, .int .i64 y14.f_Life.f_Missed, v18, v20, .int .i64 y14.f_Time]⟩) rfl ty78 rfl rfl .here rfl (.tmp (v := errV 106 none) rfl .nil)) <| ⟨⟨[_], rfl⟩, hle.trans e17, ⟨v18, v20, rfl, h19, h21⟩⟩
/-! ### (radome/life.Life).missed -/
noncomputable def life_Life_missed.C : Code := (Tryd.f95.body).getD .skip
def life_Life_missed.out (r : Bool) (H : Hp) (v : Value) : Prop := v = .bool r
abbrev life_Life_missed.R (H0 : Hp) (L : Items) (r : Bool) : Value → Hp → Items → Prop := fun v H' L' => (∃ p, L' = p ++ L) ∧ H0.le H' ∧ life_Life_missed.out r H' v
noncomputable def life_Life_missed.j1 (k : Nat)  (l_0 : Int) (l_1 : Int) (l_2 : Int) (l_3 : Int) (r_0 : Int) (r_1 : Int) (r_2 : Int) (t6 : Int) (t7 : Bool) : Option Bool := if t7 = true then (some ((decide (0 ≤ l_3)) && (decide (l_3 ≤ r_2)))) else (if t6 = 1 then (some (decide (l_3 = 0))) else (if t6 = 2 then (some ((decide (1 ≤ l_3)) && (decide (l_3 < r_2)))) else (if t6 = 4 then (some (decide (l_3 = r_2))) else (some (false)))))
noncomputable def life_Life_missed.f (k : Nat) (l : life_Life) (r_ : life_Rule) : Option Bool := if l.f_Kind = 0 then (life_Life_missed.j1 k l.f_Kind l.f_Seen l.f_Age l.f_Missed r_.f_Hits r_.f_Window r_.f_Misses l.f_Kind (decide (l.f_Kind = 0))) else (life_Life_missed.j1 k l.f_Kind l.f_Seen l.f_Age l.f_Missed r_.f_Hits r_.f_Window r_.f_Misses l.f_Kind (decide (l.f_Kind = 3)))
theorem life_Life_missed.j1_mono {k : Nat} : ∀ y0 y1 y2 y3 y4 y5 y6 y7 y8, LeO (life_Life_missed.j1 k y0 y1 y2 y3 y4 y5 y6 y7 y8) (life_Life_missed.j1 (k + 1) y0 y1 y2 y3 y4 y5 y6 y7 y8) := fun _ _ _ _ _ _ _ _ _ => (LeO.ite (LeO.refl _) (LeO.ite (LeO.refl _) (LeO.ite (LeO.refl _) (LeO.ite (LeO.refl _) (LeO.refl _)))))
theorem life_Life_missed.mono : ∀ k y0 y1, LeO (life_Life_missed.f k y0 y1) (life_Life_missed.f (k + 1) y0 y1) := fun k _ _ => by unfold life_Life_missed.f; exact (LeO.ite (life_Life_missed.j1_mono (k := k)  _ _ _ _ _ _ _ _ _) (life_Life_missed.j1_mono (k := k)  _ _ _ _ _ _ _ _ _))
noncomputable def life_Life_missed.Kj1 : List Item := .code (seqR (blkB (seqR (seqL (seqR life_Life_missed.C))))) :: .inBlock 0 :: .code (seqR (seqR life_Life_missed.C)) :: []
theorem life_Life_missed.j1_ok {k : Nat} {H0 H : Hp} {L : Items} {r : Bool} {jk_ : Nat → Value} {l_0 : Int} {l_1 : Int} {l_2 : Int} {l_3 : Int} {r_0 : Int} {r_1 : Int} {r_2 : Int} {t6 : Int} {t7 : Bool} {b_l : Nat} {b_r_ : Nat} (hle : H0.le H) (he : life_Life_missed.j1 k l_0 l_1 l_2 l_3 r_0 r_1 r_2 t6 t7 = some r) : Wp Tryd.prog 95 44 life_Life_missed.Kj1 (upd (upd (upd (upd (upd jk_ 2 (.pointer (some ⟨b_l, 0, none⟩))) 3 (.pointer (some ⟨b_r_, 0, none⟩))) 4 (.bool false)) 6 (.int .i64 t6)) 7 (.bool t7)) H (some (b_r_, .cells ⟨[.int .i64 r_0, .int .i64 r_1, .int .i64 r_2]⟩ 60 (0, 0)) :: some (b_l, .cells ⟨[.int .i64 l_0, .int .u32 l_1, .int .i64 l_2, .int .i64 l_3]⟩ 76 (0, 0)) :: L) (life_Life_missed.R H0 L r) := by
 unfold life_Life_missed.j1 at he
 unfold life_Life_missed.Kj1
 rcases its he with ⟨c4, he⟩ | ⟨c4, he⟩
 ·
  refine w_then rfl c4 <| w_seq <| w_region rfl <| w_d rfl (d_fld (o' := 3) Tryd.underlying76 rfl sz3 rfl rfl rfl) <| w_d rfl (d_loado (v := .int .i64 l_3) ty3 rfl (.there .here) rfl rfl rfl rfl) <| w_d rfl (d_geq rfl rfl) <| w_d rfl (d_move (v := .bool (decide (0 ≤ l_3))) rfl) <| w_g (g := decide (0 ≤ l_3)) rfl rfl rfl wn_t (fun g5 => d_fld (o' := 3) Tryd.underlying76 rfl sz3 rfl rfl rfl) <| w_g (g := decide (0 ≤ l_3)) rfl rfl rfl wn_t (fun g6 => d_loado (v := .int .i64 l_3) ty3 (cvt g6) (.there .here) rfl rfl rfl rfl) <| w_g (g := decide (0 ≤ l_3)) rfl rfl rfl wn_t (fun g7 => d_fld (o' := 2) Tryd.underlying60 rfl sz3 rfl rfl rfl) <| w_g (g := decide (0 ≤ l_3)) rfl rfl rfl wn_t (fun g8 => d_loado (v := .int .i64 r_2) ty3 (cvt g8) .here rfl rfl rfl rfl) <| w_g (g := decide (0 ≤ l_3)) rfl rfl rfl wn_t (fun g9 => d_leq (cvt g9) (cvt g9)) ?_
  refine w_d rfl (d_and' (b := (decide (0 ≤ l_3))) (p := (decide (l_3 ≤ r_2))) rfl rfl rfl) <| w_d rfl (d_assign (v := .bool ((decide (0 ≤ l_3)) && (decide (l_3 ≤ r_2)))) rfl) <| w_done ?_
  obtain rfl := Option.some.inj he
  refine w_return fn_95 rs_95 (.tmp (v := .bool ((decide (0 ≤ l_3)) && (decide (l_3 ≤ r_2)))) rfl .nil) <| ⟨⟨[_, _], rfl⟩, hle, rfl⟩
 ·
  refine w_else rfl (Bool.eq_false_iff.2 c4) <| w_seq <| w_region rfl <| w_d rfl (d_eql rfl rfl) <| w_d rfl (d_assign (v := .bool (decide (t6 = 1))) rfl) <| w_done ?_
  rcases its he with ⟨c10, he⟩ | ⟨c10, he⟩
  ·
   refine w_then rfl (decide_eq_true c10) <| w_seq <| w_region rfl <| w_d rfl (d_fld (o' := 3) Tryd.underlying76 rfl sz3 rfl rfl rfl) <| w_d rfl (d_loado (v := .int .i64 l_3) ty3 rfl (.there .here) rfl rfl rfl rfl) <| w_d rfl (d_eql rfl rfl) <| w_d rfl (d_assign (v := .bool (decide (l_3 = 0))) rfl) <| w_done ?_
   obtain rfl := Option.some.inj he
   refine w_return fn_95 rs_95 (.tmp (v := .bool (decide (l_3 = 0))) rfl .nil) <| ⟨⟨[_, _], rfl⟩, hle, rfl⟩
  ·
   refine w_else rfl (decide_eq_false c10) <| w_seq <| w_region rfl <| w_d rfl (d_eql rfl rfl) <| w_d rfl (d_assign (v := .bool (decide (t6 = 2))) rfl) <| w_done ?_
   rcases its he with ⟨c11, he⟩ | ⟨c11, he⟩
   ·
    refine w_then rfl (decide_eq_true c11) <| w_seq <| w_region rfl <| w_d rfl (d_fld (o' := 3) Tryd.underlying76 rfl sz3 rfl rfl rfl) <| w_d rfl (d_loado (v := .int .i64 l_3) ty3 rfl (.there .here) rfl rfl rfl rfl) <| w_d rfl (d_geq rfl rfl) <| w_d rfl (d_move (v := .bool (decide (1 ≤ l_3))) rfl) <| w_g (g := decide (1 ≤ l_3)) rfl rfl rfl wn_t (fun g12 => d_fld (o' := 3) Tryd.underlying76 rfl sz3 rfl rfl rfl) <| w_g (g := decide (1 ≤ l_3)) rfl rfl rfl wn_t (fun g13 => d_loado (v := .int .i64 l_3) ty3 (cvt g13) (.there .here) rfl rfl rfl rfl) <| w_g (g := decide (1 ≤ l_3)) rfl rfl rfl wn_t (fun g14 => d_fld (o' := 2) Tryd.underlying60 rfl sz3 rfl rfl rfl) <| w_g (g := decide (1 ≤ l_3)) rfl rfl rfl wn_t (fun g15 => d_loado (v := .int .i64 r_2) ty3 (cvt g15) .here rfl rfl rfl rfl) <| w_g (g := decide (1 ≤ l_3)) rfl rfl rfl wn_t (fun g16 => d_lss (cvt g16) (cvt g16)) ?_
    refine w_d rfl (d_and' (b := (decide (1 ≤ l_3))) (p := (decide (l_3 < r_2))) rfl rfl rfl) <| w_d rfl (d_assign (v := .bool ((decide (1 ≤ l_3)) && (decide (l_3 < r_2)))) rfl) <| w_done ?_
    obtain rfl := Option.some.inj he
    refine w_return fn_95 rs_95 (.tmp (v := .bool ((decide (1 ≤ l_3)) && (decide (l_3 < r_2)))) rfl .nil) <| ⟨⟨[_, _], rfl⟩, hle, rfl⟩
   ·
    refine w_else rfl (decide_eq_false c11) <| w_seq <| w_region rfl <| w_d rfl (d_eql rfl rfl) <| w_d rfl (d_assign (v := .bool (decide (t6 = 4))) rfl) <| w_done ?_
    rcases its he with ⟨c17, he⟩ | ⟨c17, he⟩
    ·
     refine w_then rfl (decide_eq_true c17) <| w_seq <| w_region rfl <| w_d rfl (d_fld (o' := 3) Tryd.underlying76 rfl sz3 rfl rfl rfl) <| w_d rfl (d_loado (v := .int .i64 l_3) ty3 rfl (.there .here) rfl rfl rfl rfl) <| w_d rfl (d_fld (o' := 2) Tryd.underlying60 rfl sz3 rfl rfl rfl) <| w_d rfl (d_loado (v := .int .i64 r_2) ty3 rfl .here rfl rfl rfl rfl) <| w_d rfl (d_eql rfl rfl) <| w_d rfl (d_assign (v := .bool (decide (l_3 = r_2))) rfl) <| w_done ?_
     obtain rfl := Option.some.inj he
     refine w_return fn_95 rs_95 (.tmp (v := .bool (decide (l_3 = r_2))) rfl .nil) <| ⟨⟨[_, _], rfl⟩, hle, rfl⟩
    ·
     refine w_else rfl (decide_eq_false c17) <| w_skip <| w_inBlock <| w_seq <| w_region rfl <| w_d rfl (d_assign (v := .bool false) rfl) <| w_done ?_
     obtain rfl := Option.some.inj he
     refine w_return fn_95 rs_95 (.tmp (v := .bool false) rfl .nil) <| ⟨⟨[_, _], rfl⟩, hle, rfl⟩
theorem life_Life_missed.calls (k : Nat) {H : Hp} {L : Items} {l : life_Life} {r_ : life_Rule} {r : Bool} (he : life_Life_missed.f k l r_ = some r) : Ct Tryd.prog 95 ⟨[.agg ⟨[.int .i64 l.f_Kind, .int .u32 l.f_Seen, .int .i64 l.f_Age, .int .i64 l.f_Missed]⟩, .agg ⟨[.int .i64 r_.f_Hits, .int .i64 r_.f_Window, .int .i64 r_.f_Misses]⟩]⟩ H L (fun v H' L' => L = L' ∧ H = H' ∧ v = .bool r) := by
 refine ct_outs (O := life_Life_missed.out r) (fun _ _ h => h) ?_
 have hle : H.le H := .refl _
 unfold life_Life_missed.f at he
 refine ct_enter (args := [_, _]) fn_95 rfl nt_95 rfl <| w_seq <| w_region rfl <| w_a rfl (o_box (v := .agg ⟨[.int .i64 l.f_Kind, .int .u32 l.f_Seen, .int .i64 l.f_Age, .int .i64 l.f_Missed]⟩) rfl rfl) ?_
 rintro _ _ _ ⟨b1, rfl, rfl, rfl⟩
 refine w_a rfl (o_box (v := .agg ⟨[.int .i64 r_.f_Hits, .int .i64 r_.f_Window, .int .i64 r_.f_Misses]⟩) rfl rfl) ?_
 rintro _ _ _ ⟨b2, rfl, rfl, rfl⟩
 refine w_d rfl (d_assign (v := .bool false) rfl) <| w_done <| w_seq <| w_seq <| w_region rfl <| w_d rfl (d_fld (o' := 0) Tryd.underlying76 rfl sz3 rfl rfl rfl) <| w_d rfl (d_loado (v := .int .i64 l.f_Kind) ty3 rfl (.there .here) rfl rfl rfl rfl) <| w_done <| w_block <| w_seq <| w_seq <| w_region rfl ?_
 refine w_d rfl (d_eql rfl rfl) <| w_d rfl (d_assign (v := .bool (decide (l.f_Kind = 0))) rfl) <| w_done ?_
 rcases its he with ⟨c3, he⟩ | ⟨c3, he⟩
 ·
  refine w_then rfl (decide_eq_true c3) <| w_skip <| w_sl 2 (.pointer (some ⟨b1, 0, none⟩)) rfl <| w_sl 3 (.pointer (some ⟨b2, 0, none⟩)) rfl <| w_sl 4 (.bool false) rfl <| w_sl 6 (.int .i64 l.f_Kind) rfl <| w_sl 7 (.bool (decide (l.f_Kind = 0))) rfl <| life_Life_missed.j1_ok (k := k) hle he
 ·
  refine w_else rfl (decide_eq_false c3) <| w_region rfl <| w_d rfl (d_eql rfl rfl) <| w_d rfl (d_assign (v := .bool (decide (l.f_Kind = 3))) rfl) <| w_done <| w_sl 2 (.pointer (some ⟨b1, 0, none⟩)) rfl <| w_sl 3 (.pointer (some ⟨b2, 0, none⟩)) rfl <| w_sl 4 (.bool false) rfl <| w_sl 6 (.int .i64 l.f_Kind) rfl <| w_sl 7 (.bool (decide (l.f_Kind = 3))) rfl <| life_Life_missed.j1_ok (k := k) hle he
/-! ### radome/life.May -/
noncomputable def life_May.C : Code := (Tryd.f82.body).getD .skip
def life_May.out (r : (Option Int)) (H : Hp) (v : Value) : Prop := v = errV 106 r
abbrev life_May.R (H0 : Hp) (L : Items) (r : (Option Int)) : Value → Hp → Items → Prop := fun v H' L' => (∃ p, L' = p ++ L) ∧ H0.le H' ∧ life_May.out r H' v
noncomputable def life_May.f (k : Nat) (r_ : life_Rule) (l : life_Life) : Option (Option Int) := (life_Check.f k r_).bind fun y3 => if (!((y3.isSome || (decide (l.f_Age < 1))) || (decide (r_.f_Window < l.f_Age)))) = true → 0 ≤ l.f_Age then ((gd (!(((y3.isSome || (decide (l.f_Age < 1))) || (decide (r_.f_Window < l.f_Age))) || (!decide ((l.f_Seen / 2 ^ shn .u32 l.f_Age) = 0)))) (life_Life_missed.f k l r_) (false)).bind fun y25 => if ((((y3.isSome || (decide (l.f_Age < 1))) || (decide (r_.f_Window < l.f_Age))) || (!decide ((l.f_Seen / 2 ^ shn .u32 l.f_Age) = 0))) || (!y25)) = true then (some (some 1)) else (some (none))) else none
theorem life_May.mono : ∀ k y0 y1, LeO (life_May.f k y0 y1) (life_May.f (k + 1) y0 y1) := fun k _ _ => by unfold life_May.f; exact (LeO.bind (life_Check.mono k _) fun _ => LeO.ite (LeO.bind (LeO.gd (life_Life_missed.mono k _ _)) fun _ => LeO.ite (LeO.refl _) (LeO.refl _)) (LeO.refl _))
theorem life_May.calls (k : Nat) {H : Hp} {L : Items} {r_ : life_Rule} {l : life_Life} {r : (Option Int)} (he : life_May.f k r_ l = some r) : Ct Tryd.prog 82 ⟨[.agg ⟨[.int .i64 r_.f_Hits, .int .i64 r_.f_Window, .int .i64 r_.f_Misses]⟩, .agg ⟨[.int .i64 l.f_Kind, .int .u32 l.f_Seen, .int .i64 l.f_Age, .int .i64 l.f_Missed]⟩]⟩ H L (fun v H' L' => L = L' ∧ H = H' ∧ v = errV 106 r) := by
 refine ct_outs (O := life_May.out r) (fun _ _ h => h) ?_
 have hle : H.le H := .refl _
 unfold life_May.f at he
 refine ct_enter (args := [_, _]) fn_82 rfl nt_82 rfl <| w_seq <| w_region rfl <| w_a rfl (o_box (v := .agg ⟨[.int .i64 r_.f_Hits, .int .i64 r_.f_Window, .int .i64 r_.f_Misses]⟩) rfl rfl) ?_
 rintro _ _ _ ⟨b1, rfl, rfl, rfl⟩
 refine w_a rfl (o_box (v := .agg ⟨[.int .i64 l.f_Kind, .int .u32 l.f_Seen, .int .i64 l.f_Age, .int .i64 l.f_Missed]⟩) rfl rfl) ?_
 rintro _ _ _ ⟨b2, rfl, rfl, rfl⟩
 refine w_d rfl (d_assign (v := errV 106 none) rfl) <| w_done <| w_seq <| w_seq <| w_region rfl <| w_d rfl (d_loado (v := .agg ⟨[.int .i64 r_.f_Hits, .int .i64 r_.f_Window, .int .i64 r_.f_Misses]⟩) ty60 rfl (.there .here) rfl rfl rfl rfl) ?_
 obtain ⟨y3, hy4, he⟩ := Option.bind_eq_some_iff.1 he
 refine w_d rfl (call_d (o_call co55 (vs := [.agg ⟨[.int .i64 r_.f_Hits, .int .i64 r_.f_Window, .int .i64 r_.f_Misses]⟩]) rfl (life_Check.calls k (r_ := r_) hy4))) <| w_d rfl (d_nenil (e := y3) Tryd.underlying24 rfl) <| w_d rfl (d_move (v := .bool y3.isSome) rfl) <| w_g (g := !y3.isSome) rfl rfl rfl wn_f (fun g7 => d_fld (o' := 2) Tryd.underlying76 rfl sz3 rfl rfl rfl) <| w_g (g := !y3.isSome) rfl rfl rfl wn_f (fun g8 => d_loado (v := .int .i64 l.f_Age) ty3 (cvt g8) .here rfl rfl rfl rfl) <| w_g (g := !y3.isSome) rfl rfl rfl wn_f (fun g9 => d_lss (cvt g9) rfl) <| w_d rfl (d_or' (b := y3.isSome) (p := (decide (l.f_Age < 1))) rfl rfl rfl) <| w_d rfl (d_move (v := .bool (y3.isSome || (decide (l.f_Age < 1)))) rfl) <| w_g (g := !(y3.isSome || (decide (l.f_Age < 1)))) rfl rfl rfl wn_f (fun g10 => d_fld (o' := 2) Tryd.underlying76 rfl sz3 rfl rfl rfl) <| w_g (g := !(y3.isSome || (decide (l.f_Age < 1)))) rfl rfl rfl wn_f (fun g11 => d_loado (v := .int .i64 l.f_Age) ty3 (cvt g11) .here rfl rfl rfl rfl) <| w_g (g := !(y3.isSome || (decide (l.f_Age < 1)))) rfl rfl rfl wn_f (fun g12 => d_fld (o' := 1) Tryd.underlying60 rfl sz3 rfl rfl rfl) <| w_g (g := !(y3.isSome || (decide (l.f_Age < 1)))) rfl rfl rfl wn_f (fun g13 => d_loado (v := .int .i64 r_.f_Window) ty3 (cvt g13) (.there .here) rfl rfl rfl rfl) ?_
 refine w_g (g := !(y3.isSome || (decide (l.f_Age < 1)))) rfl rfl rfl wn_f (fun g14 => d_gtr (cvt g14) (cvt g14)) <| w_d rfl (d_or' (b := (y3.isSome || (decide (l.f_Age < 1)))) (p := (decide (r_.f_Window < l.f_Age))) rfl rfl rfl) <| w_d rfl (d_move (v := .bool ((y3.isSome || (decide (l.f_Age < 1))) || (decide (r_.f_Window < l.f_Age)))) rfl) <| w_g (g := !((y3.isSome || (decide (l.f_Age < 1))) || (decide (r_.f_Window < l.f_Age)))) rfl rfl rfl wn_f (fun g15 => d_fld (o' := 1) Tryd.underlying76 rfl sz74 rfl rfl rfl) <| w_g (g := !((y3.isSome || (decide (l.f_Age < 1))) || (decide (r_.f_Window < l.f_Age)))) rfl rfl rfl wn_f (fun g16 => d_loado (v := .int .u32 l.f_Seen) ty74 (cvt g16) .here rfl rfl rfl rfl) <| w_g (g := !((y3.isSome || (decide (l.f_Age < 1))) || (decide (r_.f_Window < l.f_Age)))) rfl rfl rfl wn_f (fun g17 => d_fld (o' := 2) Tryd.underlying76 rfl sz3 rfl rfl rfl) <| w_g (g := !((y3.isSome || (decide (l.f_Age < 1))) || (decide (r_.f_Window < l.f_Age)))) rfl rfl rfl wn_f (fun g18 => d_loado (v := .int .i64 l.f_Age) ty3 (cvt g18) .here rfl rfl rfl rfl) ?_
 obtain ⟨c20, he⟩ := rq he
 refine w_g (g := !((y3.isSome || (decide (l.f_Age < 1))) || (decide (r_.f_Window < l.f_Age)))) rfl rfl rfl wn_f (fun g19 => d_shr (c := l.f_Seen / 2 ^ shn .u32 l.f_Age) (cvt g19) (cvt g19) (c20 g19) rfl) <| w_g (g := !((y3.isSome || (decide (l.f_Age < 1))) || (decide (r_.f_Window < l.f_Age)))) rfl rfl rfl wn_f (fun g21 => d_neq (cvt g21) rfl) <| w_d rfl (d_or' (b := ((y3.isSome || (decide (l.f_Age < 1))) || (decide (r_.f_Window < l.f_Age)))) (p := (!decide ((l.f_Seen / 2 ^ shn .u32 l.f_Age) = 0))) rfl rfl rfl) <| w_d rfl (d_move (v := .bool (((y3.isSome || (decide (l.f_Age < 1))) || (decide (r_.f_Window < l.f_Age))) || (!decide ((l.f_Seen / 2 ^ shn .u32 l.f_Age) = 0)))) rfl) <| w_g (g := !(((y3.isSome || (decide (l.f_Age < 1))) || (decide (r_.f_Window < l.f_Age))) || (!decide ((l.f_Seen / 2 ^ shn .u32 l.f_Age) = 0)))) rfl rfl rfl wn_f (fun g22 => d_loado (v := .agg ⟨[.int .i64 l.f_Kind, .int .u32 l.f_Seen, .int .i64 l.f_Age, .int .i64 l.f_Missed]⟩) ty76 rfl .here rfl rfl rfl rfl) <| w_g (g := !(((y3.isSome || (decide (l.f_Age < 1))) || (decide (r_.f_Window < l.f_Age))) || (!decide ((l.f_Seen / 2 ^ shn .u32 l.f_Age) = 0)))) rfl rfl rfl wn_f (fun g23 => d_loado (v := .agg ⟨[.int .i64 r_.f_Hits, .int .i64 r_.f_Window, .int .i64 r_.f_Misses]⟩) ty60 rfl (.there .here) rfl rfl rfl rfl) ?_
 obtain ⟨y25, hy26, he⟩ := Option.bind_eq_some_iff.1 he
 refine w_g (g := !(((y3.isSome || (decide (l.f_Age < 1))) || (decide (r_.f_Window < l.f_Age))) || (!decide ((l.f_Seen / 2 ^ shn .u32 l.f_Age) = 0)))) rfl rfl rfl wn_f (fun g24 => call_d (o_call co95 (vs := [.agg ⟨[.int .i64 l.f_Kind, .int .u32 l.f_Seen, .int .i64 l.f_Age, .int .i64 l.f_Missed]⟩, .agg ⟨[.int .i64 r_.f_Hits, .int .i64 r_.f_Window, .int .i64 r_.f_Misses]⟩]) (acons (cvt g24) (acons (cvt g24) (anil))) (life_Life_missed.calls k (l := l) (r_ := r_) (gd_t g24 hy26)))) <| w_g (g := !(((y3.isSome || (decide (l.f_Age < 1))) || (decide (r_.f_Window < l.f_Age))) || (!decide ((l.f_Seen / 2 ^ shn .u32 l.f_Age) = 0)))) rfl rfl rfl wn_f (fun g29 => d_not (b := y25) (cvt g29)) <| w_d rfl (d_or' (b := (((y3.isSome || (decide (l.f_Age < 1))) || (decide (r_.f_Window < l.f_Age))) || (!decide ((l.f_Seen / 2 ^ shn .u32 l.f_Age) = 0)))) (p := (!y25)) rfl rfl rfl) <| w_done ?_
 rcases its he with ⟨c30, he⟩ | ⟨c30, he⟩
 ·
  refine w_then rfl c30 <| w_seq <| w_region rfl <| w_d rfl (d_iface (v := .int .i64 1) Tryd.underlying106 rfl rfl) <| w_d rfl (d_assign (v := errV 106 (some 1)) rfl) <| w_done ?_
  obtain rfl := Option.some.inj he
  refine w_return fn_82 rs_82 (.tmp (v := errV 106 (some 1)) rfl .nil) <| ⟨⟨[_, _], rfl⟩, hle, rfl⟩
 ·
  refine w_else rfl (Bool.eq_false_iff.2 c30) <| w_skip <| w_seq <| w_region rfl <| w_d rfl (d_assign (v := errV 106 none) rfl) <| w_done ?_
  obtain rfl := Option.some.inj he
  refine w_return fn_82 rs_82 (.tmp (v := errV 106 none) rfl .nil) <| ⟨⟨[_, _], rfl⟩, hle, rfl⟩
/-! ### math/bits.OnesCount32 -/
noncomputable def bits_OnesCount32.C : Code := (Tryd.f96.body).getD .skip
def bits_OnesCount32.out (r : Int) (H : Hp) (v : Value) : Prop := v = .int .i64 r
abbrev bits_OnesCount32.R (H0 : Hp) (L : Items) (r : Int) : Value → Hp → Items → Prop := fun v H' L' => (∃ p, L' = p ++ L) ∧ H0.le H' ∧ bits_OnesCount32.out r H' v
noncomputable def bits_OnesCount32.f (k : Nat) (x : Int) : Option Int := if (0 : Int) ≤ x / 16777216 ∧ x / 16777216 < (str_0.size : Int) then (if (0 : Int) ≤ iand .u32 (x / 65536) 255 ∧ iand .u32 (x / 65536) 255 < (str_0.size : Int) then (if (0 : Int) ≤ iand .u32 (x / 256) 255 ∧ iand .u32 (x / 256) 255 < (str_0.size : Int) then (if (0 : Int) ≤ iand .u32 x 255 ∧ iand .u32 x 255 < (str_0.size : Int) then (some (w64 (((((((bt str_0 (x / 16777216)) + (bt str_0 (iand .u32 (x / 65536) 255))) % 256) + (bt str_0 (iand .u32 (x / 256) 255))) % 256) + (bt str_0 (iand .u32 x 255))) % 256))) else none) else none) else none) else none
theorem bits_OnesCount32.mono : ∀ k y0, LeO (bits_OnesCount32.f k y0) (bits_OnesCount32.f (k + 1) y0) := fun k _ => by unfold bits_OnesCount32.f; exact (LeO.ite (LeO.ite (LeO.ite (LeO.ite (LeO.refl _) (LeO.refl _)) (LeO.refl _)) (LeO.refl _)) (LeO.refl _))
theorem bits_OnesCount32.calls (k : Nat) {H : Hp} {L : Items} {x : Int} {r : Int} (he : bits_OnesCount32.f k x = some r) : Ct Tryd.prog 96 ⟨[.int .u32 x]⟩ H L (fun v H' L' => L = L' ∧ H = H' ∧ v = .int .i64 r) := by
 refine ct_outs (O := bits_OnesCount32.out r) (fun _ _ h => h) ?_
 have hle : H.le H := .refl _
 unfold bits_OnesCount32.f at he
 refine ct_enter (args := [_]) fn_96 rfl nt_96 rfl <| w_seq <| w_region rfl <| w_d rfl (d_assign (v := .int .i64 0) rfl) <| w_done <| w_seq ?_
 obtain ⟨c1, he⟩ := rq he
 obtain ⟨c2, he⟩ := rq he
 obtain ⟨c3, he⟩ := rq he
 obtain ⟨c4, he⟩ := rq he
 refine w_drawn (p := 16) (tl := [16, 17, 18]) [[], [(0, some 3)], [(1, some 4)], [], [(3, some 6)], [(4, some 7)], [(5, some 8)], [(2, some 5), (6, some 9)], [], [(8, some 11)], [(9, some 12)], [(10, some 13)], [(7, some 10), (11, some 14)], [], [(13, some 16)], [(14, some 17)]] [some 3, some 4, some 5, some 6, some 7, some 8, some 9, some 10, some 11, some 12, some 13, some 14, some 15, some 16, some 17, some 18] (fctF (.is (.int .u32 x) :: .is (.int .u32 (x / 16777216)) :: .is (.int .u8 (bt str_0 (x / 16777216))) :: .is (.int .u32 x) :: .is (.int .u32 (x / 65536)) :: .is (.int .u32 (iand .u32 (x / 65536) 255)) :: .is (.int .u8 (bt str_0 (iand .u32 (x / 65536) 255))) :: .is (.int .u8 (((bt str_0 (x / 16777216)) + (bt str_0 (iand .u32 (x / 65536) 255))) % 256)) :: .is (.int .u32 x) :: .is (.int .u32 (x / 256)) :: .is (.int .u32 (iand .u32 (x / 256) 255)) :: .is (.int .u8 (bt str_0 (iand .u32 (x / 256) 255))) :: .is (.int .u8 (((((bt str_0 (x / 16777216)) + (bt str_0 (iand .u32 (x / 65536) 255))) % 256) + (bt str_0 (iand .u32 (x / 256) 255))) % 256)) :: .is (.int .u32 x) :: .is (.int .u32 (iand .u32 x 255)) :: .is (.int .u8 (bt str_0 (iand .u32 x 255))) :: [])) (fun m_ => L) (fun _ => none) mixed (by kernel_rfl) (by kernel_rfl) rfl (fct_mono (by kernel_rfl)) ⟨(fun H' m_ hH hm_ hu_ => depK_nil <| s_d (m_ 0) rfl (d_move (v := .int .u32 x) rfl) (by exact rfl) rfl), (by rintro H' m_ hH hm_ hu_ _ rfl; exact depK_nil <| s_d (m_ 1) rfl (d_shr (c := x / 16777216) rfl rfl (by decide) rfl) (by exact rfl) rfl), (by rintro H' m_ hH hm_ hu_ _ rfl; exact depK_nil <| s_d (m_ 2) rfl (d_bt Tryd.underlying9 rfl rfl c1) (by exact rfl) rfl), (fun H' m_ hH hm_ hu_ => depK_nil <| s_d (m_ 3) rfl (d_move (v := .int .u32 x) rfl) (by exact rfl) rfl), (by rintro H' m_ hH hm_ hu_ _ rfl; exact depK_nil <| s_d (m_ 4) rfl (d_shr (c := x / 65536) rfl rfl (by decide) rfl) (by exact rfl) rfl), (by rintro H' m_ hH hm_ hu_ _ rfl; exact depK_nil <| s_d (m_ 5) rfl (d_band rfl rfl) (by exact rfl) rfl), (by rintro H' m_ hH hm_ hu_ _ rfl; exact depK_nil <| s_d (m_ 6) rfl (d_bt Tryd.underlying9 rfl rfl c2) (by exact rfl) rfl), (by rintro H' m_ hH hm_ hu_ _ rfl _ rfl; exact depK_nil <| s_d (m_ 7) rfl (d_add (c := ((bt str_0 (x / 16777216)) + (bt str_0 (iand .u32 (x / 65536) 255))) % 256) rfl rfl rfl) (by exact rfl) rfl), (fun H' m_ hH hm_ hu_ => depK_nil <| s_d (m_ 8) rfl (d_move (v := .int .u32 x) rfl) (by exact rfl) rfl), (by rintro H' m_ hH hm_ hu_ _ rfl; exact depK_nil <| s_d (m_ 9) rfl (d_shr (c := x / 256) rfl rfl (by decide) rfl) (by exact rfl) rfl), (by rintro H' m_ hH hm_ hu_ _ rfl; exact depK_nil <| s_d (m_ 10) rfl (d_band rfl rfl) (by exact rfl) rfl), (by rintro H' m_ hH hm_ hu_ _ rfl; exact depK_nil <| s_d (m_ 11) rfl (d_bt Tryd.underlying9 rfl rfl c3) (by exact rfl) rfl), (by rintro H' m_ hH hm_ hu_ _ rfl _ rfl; exact depK_nil <| s_d (m_ 12) rfl (d_add (c := ((((bt str_0 (x / 16777216)) + (bt str_0 (iand .u32 (x / 65536) 255))) % 256) + (bt str_0 (iand .u32 (x / 256) 255))) % 256) rfl rfl rfl) (by exact rfl) rfl), (fun H' m_ hH hm_ hu_ => depK_nil <| s_d (m_ 13) rfl (d_move (v := .int .u32 x) rfl) (by exact rfl) rfl), (by rintro H' m_ hH hm_ hu_ _ rfl; exact depK_nil <| s_d (m_ 14) rfl (d_band rfl rfl) (by exact rfl) rfl), (by rintro H' m_ hH hm_ hu_ _ rfl; exact depK_nil <| s_d (m_ 15) rfl (d_bt Tryd.underlying9 rfl rfl c4) (by exact rfl) rfl), trivial⟩ ?_
 intro H5 e6
 rintro _ _ rfl _ _ rfl _ _ rfl _ _ rfl _ _ rfl _ _ rfl _ _ rfl _ _ rfl _ _ rfl _ _ rfl _ _ rfl _ _ rfl _ _ rfl _ _ rfl _ _ rfl _ _ rfl
 refine w_d rfl (d_add (c := ((((((bt str_0 (x / 16777216)) + (bt str_0 (iand .u32 (x / 65536) 255))) % 256) + (bt str_0 (iand .u32 (x / 256) 255))) % 256) + (bt str_0 (iand .u32 x 255))) % 256) rfl rfl rfl) <| w_d rfl (d_conv (c := w64 (((((((bt str_0 (x / 16777216)) + (bt str_0 (iand .u32 (x / 65536) 255))) % 256) + (bt str_0 (iand .u32 (x / 256) 255))) % 256) + (bt str_0 (iand .u32 x 255))) % 256)) Tryd.underlying5 Tryd.underlying3 rfl rfl) <| w_d rfl (d_assign (v := .int .i64 (w64 (((((((bt str_0 (x / 16777216)) + (bt str_0 (iand .u32 (x / 65536) 255))) % 256) + (bt str_0 (iand .u32 (x / 256) 255))) % 256) + (bt str_0 (iand .u32 x 255))) % 256))) rfl) <| w_done ?_
 obtain rfl := Option.some.inj he
 refine w_return fn_96 rs_96 (.tmp (v := .int .i64 (w64 (((((((bt str_0 (x / 16777216)) + (bt str_0 (iand .u32 (x / 65536) 255))) % 256) + (bt str_0 (iand .u32 (x / 256) 255))) % 256) + (bt str_0 (iand .u32 x 255))) % 256))) rfl .nil) <| ⟨⟨[], rfl⟩, hle.trans e6, rfl⟩
/-! ### (radome/life.Life).sure -/
noncomputable def life_Life_sure.C : Code := (Tryd.f97.body).getD .skip
def life_Life_sure.out (r : Int) (H : Hp) (v : Value) : Prop := v = .int .i64 r
abbrev life_Life_sure.R (H0 : Hp) (L : Items) (r : Int) : Value → Hp → Items → Prop := fun v H' L' => (∃ p, L' = p ++ L) ∧ H0.le H' ∧ life_Life_sure.out r H' v
noncomputable def life_Life_sure.f (k : Nat) (l : life_Life) (r_ : life_Rule) : Option Int := if l.f_Missed = 0 then (some (1)) else (if l.f_Missed = r_.f_Misses then (some (4)) else (some (2)))
theorem life_Life_sure.mono : ∀ k y0 y1, LeO (life_Life_sure.f k y0 y1) (life_Life_sure.f (k + 1) y0 y1) := fun k _ _ => by unfold life_Life_sure.f; exact (LeO.ite (LeO.refl _) (LeO.ite (LeO.refl _) (LeO.refl _)))
theorem life_Life_sure.calls (k : Nat) {H : Hp} {L : Items} {l : life_Life} {r_ : life_Rule} {r : Int} (he : life_Life_sure.f k l r_ = some r) : Ct Tryd.prog 97 ⟨[.agg ⟨[.int .i64 l.f_Kind, .int .u32 l.f_Seen, .int .i64 l.f_Age, .int .i64 l.f_Missed]⟩, .agg ⟨[.int .i64 r_.f_Hits, .int .i64 r_.f_Window, .int .i64 r_.f_Misses]⟩]⟩ H L (fun v H' L' => L = L' ∧ H = H' ∧ v = .int .i64 r) := by
 refine ct_outs (O := life_Life_sure.out r) (fun _ _ h => h) ?_
 have hle : H.le H := .refl _
 unfold life_Life_sure.f at he
 refine ct_enter (args := [_, _]) fn_97 rfl nt_97 rfl <| w_seq <| w_region rfl <| w_a rfl (o_box (v := .agg ⟨[.int .i64 l.f_Kind, .int .u32 l.f_Seen, .int .i64 l.f_Age, .int .i64 l.f_Missed]⟩) rfl rfl) ?_
 rintro _ _ _ ⟨b1, rfl, rfl, rfl⟩
 refine w_a rfl (o_box (v := .agg ⟨[.int .i64 r_.f_Hits, .int .i64 r_.f_Window, .int .i64 r_.f_Misses]⟩) rfl rfl) ?_
 rintro _ _ _ ⟨b2, rfl, rfl, rfl⟩
 refine w_d rfl (d_assign (v := .int .i64 0) rfl) <| w_done <| w_seq <| w_seq <| w_region rfl <| w_d rfl (d_fld (o' := 3) Tryd.underlying76 rfl sz3 rfl rfl rfl) <| w_d rfl (d_loado (v := .int .i64 l.f_Missed) ty3 rfl (.there .here) rfl rfl rfl rfl) <| w_done <| w_block <| w_seq <| w_region rfl <| w_d rfl (d_eql rfl rfl) ?_
 refine w_d rfl (d_assign (v := .bool (decide (l.f_Missed = 0))) rfl) <| w_done ?_
 rcases its he with ⟨c3, he⟩ | ⟨c3, he⟩
 ·
  refine w_then rfl (decide_eq_true c3) <| w_seq <| w_region rfl <| w_d rfl (d_assign (v := .int .i64 1) rfl) <| w_done ?_
  obtain rfl := Option.some.inj he
  refine w_return fn_97 rs_97 (.tmp (v := .int .i64 1) rfl .nil) <| ⟨⟨[_, _], rfl⟩, hle, rfl⟩
 ·
  refine w_else rfl (decide_eq_false c3) <| w_seq <| w_region rfl <| w_d rfl (d_fld (o' := 2) Tryd.underlying60 rfl sz3 rfl rfl rfl) <| w_d rfl (d_loado (v := .int .i64 r_.f_Misses) ty3 rfl .here rfl rfl rfl rfl) <| w_d rfl (d_eql rfl rfl) <| w_d rfl (d_assign (v := .bool (decide (l.f_Missed = r_.f_Misses))) rfl) <| w_done ?_
  rcases its he with ⟨c4, he⟩ | ⟨c4, he⟩
  ·
   refine w_then rfl (decide_eq_true c4) <| w_seq <| w_region rfl <| w_d rfl (d_assign (v := .int .i64 4) rfl) <| w_done ?_
   obtain rfl := Option.some.inj he
   refine w_return fn_97 rs_97 (.tmp (v := .int .i64 4) rfl .nil) <| ⟨⟨[_, _], rfl⟩, hle, rfl⟩
  ·
   refine w_else rfl (decide_eq_false c4) <| w_skip <| w_inBlock <| w_seq <| w_region rfl <| w_d rfl (d_assign (v := .int .i64 2) rfl) <| w_done ?_
   obtain rfl := Option.some.inj he
   refine w_return fn_97 rs_97 (.tmp (v := .int .i64 2) rfl .nil) <| ⟨⟨[_, _], rfl⟩, hle, rfl⟩
/-! ### (radome/life.Life).kind -/
noncomputable def life_Life_kind.C : Code := (Tryd.f83.body).getD .skip
def life_Life_kind.out (r : Int) (H : Hp) (v : Value) : Prop := v = .int .i64 r
abbrev life_Life_kind.R (H0 : Hp) (L : Items) (r : Int) : Value → Hp → Items → Prop := fun v H' L' => (∃ p, L' = p ++ L) ∧ H0.le H' ∧ life_Life_kind.out r H' v
noncomputable def life_Life_kind.f (k : Nat) (l : life_Life) (r_ : life_Rule) : Option Int := (gd (!(!decide (l.f_Kind = 0))) (bits_OnesCount32.f k l.f_Seen) (0)).bind fun y6 => if ((!decide (l.f_Kind = 0)) || (decide (r_.f_Hits ≤ y6))) = true then ((life_Life_sure.f k l r_).bind fun y16 => some (y16)) else (if ((decide (l.f_Age = r_.f_Window)) || (decide (l.f_Missed = r_.f_Misses))) = true then (some (3)) else (some (0)))
theorem life_Life_kind.mono : ∀ k y0 y1, LeO (life_Life_kind.f k y0 y1) (life_Life_kind.f (k + 1) y0 y1) := fun k _ _ => by unfold life_Life_kind.f; exact (LeO.bind (LeO.gd (bits_OnesCount32.mono k _)) fun _ => LeO.ite (LeO.bind (life_Life_sure.mono k _ _) fun _ => LeO.refl _) (LeO.ite (LeO.refl _) (LeO.refl _)))
theorem life_Life_kind.calls (k : Nat) {H : Hp} {L : Items} {l : life_Life} {r_ : life_Rule} {r : Int} (he : life_Life_kind.f k l r_ = some r) : Ct Tryd.prog 83 ⟨[.agg ⟨[.int .i64 l.f_Kind, .int .u32 l.f_Seen, .int .i64 l.f_Age, .int .i64 l.f_Missed]⟩, .agg ⟨[.int .i64 r_.f_Hits, .int .i64 r_.f_Window, .int .i64 r_.f_Misses]⟩]⟩ H L (fun v H' L' => L = L' ∧ H = H' ∧ v = .int .i64 r) := by
 refine ct_outs (O := life_Life_kind.out r) (fun _ _ h => h) ?_
 have hle : H.le H := .refl _
 unfold life_Life_kind.f at he
 refine ct_enter (args := [_, _]) fn_83 rfl nt_83 rfl <| w_seq <| w_region rfl <| w_a rfl (o_box (v := .agg ⟨[.int .i64 l.f_Kind, .int .u32 l.f_Seen, .int .i64 l.f_Age, .int .i64 l.f_Missed]⟩) rfl rfl) ?_
 rintro _ _ _ ⟨b1, rfl, rfl, rfl⟩
 refine w_a rfl (o_box (v := .agg ⟨[.int .i64 r_.f_Hits, .int .i64 r_.f_Window, .int .i64 r_.f_Misses]⟩) rfl rfl) ?_
 rintro _ _ _ ⟨b2, rfl, rfl, rfl⟩
 refine w_d rfl (d_assign (v := .int .i64 0) rfl) <| w_done <| w_seq <| w_block <| w_seq ?_
 obtain ⟨y6, hy7, he⟩ := Option.bind_eq_some_iff.1 he
 refine w_drawn (p := 9) (tl := [9, 10, 11]) [[], [(0, some 6)], [(1, some 7)], [(2, some 8)], [(3, some 9)], [(3, some 9), (4, some 10)], [(3, some 9), (5, some 11)], [(3, some 9)], [(3, some 9), (7, some 13)]] [some 6, some 7, some 8, some 9, some 10, some 11, some 12, some 13, some 14] (fctF (.is (.pointer (some ⟨b1, 0, none⟩)) :: .is (.int .i64 l.f_Kind) :: .is (.bool (!decide (l.f_Kind = 0))) :: .is (.bool (!decide (l.f_Kind = 0))) :: .is (cond (!(!decide (l.f_Kind = 0))) (.pointer (some ⟨b1, 1, none⟩)) undef) :: .is (cond (!(!decide (l.f_Kind = 0))) (.int .u32 l.f_Seen) undef) :: .is (cond (!(!decide (l.f_Kind = 0))) (.int .i64 y6) undef) :: .is (cond (!(!decide (l.f_Kind = 0))) (.pointer (some ⟨b2, 0, none⟩)) undef) :: .is (cond (!(!decide (l.f_Kind = 0))) (.int .i64 r_.f_Hits) undef) :: [])) (fun m_ => some (b2, .cells ⟨[.int .i64 r_.f_Hits, .int .i64 r_.f_Window, .int .i64 r_.f_Misses]⟩ 60 (0, 0)) :: some (b1, .cells ⟨[.int .i64 l.f_Kind, .int .u32 l.f_Seen, .int .i64 l.f_Age, .int .i64 l.f_Missed]⟩ 76 (0, 0)) :: L) (fun _ => none) mixed (by kernel_rfl) (by kernel_rfl) rfl (fct_mono (by kernel_rfl)) ⟨(fun H' m_ hH hm_ hu_ => depK_nil <| s_d (m_ 0) rfl (d_fld (o' := 0) Tryd.underlying76 rfl sz3 rfl rfl rfl) (by exact rfl) rfl), (by rintro H' m_ hH hm_ hu_ _ rfl; exact depK_nil <| s_d (m_ 1) rfl (d_loado (v := .int .i64 l.f_Kind) ty3 rfl (.there .here) rfl rfl rfl rfl) (by exact rfl) rfl), (by rintro H' m_ hH hm_ hu_ _ rfl; exact depK_nil <| s_d (m_ 2) rfl (d_neq rfl rfl) (by exact rfl) rfl), (by rintro H' m_ hH hm_ hu_ _ rfl; exact depK_nil <| s_d (m_ 3) rfl (d_move (v := .bool (!decide (l.f_Kind = 0))) rfl) (by exact rfl) rfl), (by rintro H' m_ hH hm_ hu_ _ rfl; exact depK_nil <| s_g (g := !(!decide (l.f_Kind = 0))) (m_ 4) rfl rfl rfl wn_f (fun g3 => d_fld (o' := 1) Tryd.underlying76 rfl sz74 rfl rfl rfl) rfl (by exact fun g_ => cvt g_) (by exact fun g_ => cnt g_)), (by rintro H' m_ hH hm_ hu_ _ rfl _ rfl; exact depK_nil <| s_g (g := !(!decide (l.f_Kind = 0))) (m_ 5) rfl rfl rfl wn_f (fun g4 => d_loado (v := .int .u32 l.f_Seen) ty74 (cvt g4) (.there .here) rfl rfl rfl rfl) rfl (by exact fun g_ => cvt g_) (by exact fun g_ => cnt g_)), (by rintro H' m_ hH hm_ hu_ _ rfl _ rfl; exact depK_nil <| s_g (g := !(!decide (l.f_Kind = 0))) (m_ 6) rfl rfl rfl wn_f (fun g5 => call_d (o_call co96 (vs := [.int .u32 l.f_Seen]) (acons (cvt g5) (anil)) (bits_OnesCount32.calls k (gd_t g5 hy7)))) rfl (by exact fun g_ => cvt g_) (by exact fun g_ => cnt g_)), (by rintro H' m_ hH hm_ hu_ _ rfl; exact depK_nil <| s_g (g := !(!decide (l.f_Kind = 0))) (m_ 7) rfl rfl rfl wn_f (fun g10 => d_fld (o' := 0) Tryd.underlying60 rfl sz3 rfl rfl rfl) rfl (by exact fun g_ => cvt g_) (by exact fun g_ => cnt g_)), (by rintro H' m_ hH hm_ hu_ _ rfl _ rfl; exact depK_nil <| s_g (g := !(!decide (l.f_Kind = 0))) (m_ 8) rfl rfl rfl wn_f (fun g11 => d_loado (v := .int .i64 r_.f_Hits) ty3 (cvt g11) .here rfl rfl rfl rfl) rfl (by exact fun g_ => cvt g_) (by exact fun g_ => cnt g_)), trivial⟩ ?_
 intro H12 e13
 rintro _ _ rfl _ _ rfl _ _ rfl _ _ rfl _ _ rfl _ _ rfl _ _ rfl _ _ rfl _ _ rfl
 refine w_g (g := !(!decide (l.f_Kind = 0))) rfl rfl rfl wn_f (fun g14 => d_geq (cvt g14) (cvt g14)) <| w_d rfl (d_or' (b := (!decide (l.f_Kind = 0))) (p := (decide (r_.f_Hits ≤ y6))) rfl rfl rfl) <| w_d rfl (d_assign (v := .bool ((!decide (l.f_Kind = 0)) || (decide (r_.f_Hits ≤ y6)))) rfl) <| w_done ?_
 rcases its he with ⟨c15, he⟩ | ⟨c15, he⟩
 ·
  refine w_then rfl c15 <| w_seq <| w_region rfl <| w_d rfl (d_loado (v := .agg ⟨[.int .i64 l.f_Kind, .int .u32 l.f_Seen, .int .i64 l.f_Age, .int .i64 l.f_Missed]⟩) ty76 rfl (.there .here) rfl rfl rfl rfl) <| w_d rfl (d_loado (v := .agg ⟨[.int .i64 r_.f_Hits, .int .i64 r_.f_Window, .int .i64 r_.f_Misses]⟩) ty60 rfl .here rfl rfl rfl rfl) ?_
  obtain ⟨y16, hy17, he⟩ := Option.bind_eq_some_iff.1 he
  refine w_d rfl (call_d (o_call co97 (vs := [.agg ⟨[.int .i64 l.f_Kind, .int .u32 l.f_Seen, .int .i64 l.f_Age, .int .i64 l.f_Missed]⟩, .agg ⟨[.int .i64 r_.f_Hits, .int .i64 r_.f_Window, .int .i64 r_.f_Misses]⟩]) rfl (life_Life_sure.calls k (l := l) (r_ := r_) hy17))) <| w_d rfl (d_assign (v := .int .i64 y16) rfl) <| w_done ?_
  obtain rfl := Option.some.inj he
  refine w_return fn_83 rs_83 (.tmp (v := .int .i64 y16) rfl .nil) <| ⟨⟨[_, _], rfl⟩, hle.trans e13, rfl⟩
 ·
  refine w_else rfl (Bool.eq_false_iff.2 c15) <| w_seq <| w_region rfl <| w_d rfl (d_fld (o' := 2) Tryd.underlying76 rfl sz3 rfl rfl rfl) <| w_d rfl (d_loado (v := .int .i64 l.f_Age) ty3 rfl (.there .here) rfl rfl rfl rfl) <| w_d rfl (d_fld (o' := 1) Tryd.underlying60 rfl sz3 rfl rfl rfl) <| w_d rfl (d_loado (v := .int .i64 r_.f_Window) ty3 rfl .here rfl rfl rfl rfl) <| w_d rfl (d_eql rfl rfl) <| w_d rfl (d_move (v := .bool (decide (l.f_Age = r_.f_Window))) rfl) <| w_g (g := !(decide (l.f_Age = r_.f_Window))) rfl rfl rfl wn_f (fun g20 => d_fld (o' := 3) Tryd.underlying76 rfl sz3 rfl rfl rfl) <| w_g (g := !(decide (l.f_Age = r_.f_Window))) rfl rfl rfl wn_f (fun g21 => d_loado (v := .int .i64 l.f_Missed) ty3 (cvt g21) (.there .here) rfl rfl rfl rfl) <| w_g (g := !(decide (l.f_Age = r_.f_Window))) rfl rfl rfl wn_f (fun g22 => d_fld (o' := 2) Tryd.underlying60 rfl sz3 rfl rfl rfl) ?_
  refine w_g (g := !(decide (l.f_Age = r_.f_Window))) rfl rfl rfl wn_f (fun g23 => d_loado (v := .int .i64 r_.f_Misses) ty3 (cvt g23) .here rfl rfl rfl rfl) <| w_g (g := !(decide (l.f_Age = r_.f_Window))) rfl rfl rfl wn_f (fun g24 => d_eql (cvt g24) (cvt g24)) <| w_d rfl (d_or' (b := (decide (l.f_Age = r_.f_Window))) (p := (decide (l.f_Missed = r_.f_Misses))) rfl rfl rfl) <| w_d rfl (d_assign (v := .bool ((decide (l.f_Age = r_.f_Window)) || (decide (l.f_Missed = r_.f_Misses)))) rfl) <| w_done ?_
  rcases its he with ⟨c25, he⟩ | ⟨c25, he⟩
  ·
   refine w_then rfl c25 <| w_seq <| w_region rfl <| w_d rfl (d_assign (v := .int .i64 3) rfl) <| w_done ?_
   obtain rfl := Option.some.inj he
   refine w_return fn_83 rs_83 (.tmp (v := .int .i64 3) rfl .nil) <| ⟨⟨[_, _], rfl⟩, hle.trans e13, rfl⟩
  ·
   refine w_else rfl (Bool.eq_false_iff.2 c25) <| w_skip <| w_inBlock <| w_seq <| w_region rfl <| w_d rfl (d_assign (v := .int .i64 0) rfl) <| w_done ?_
   obtain rfl := Option.some.inj he
   refine w_return fn_83 rs_83 (.tmp (v := .int .i64 0) rfl .nil) <| ⟨⟨[_, _], rfl⟩, hle.trans e13, rfl⟩
/-! ### radome/life.Next -/
noncomputable def life_Next.C : Code := (Tryd.f61.body).getD .skip
def life_Next.out (r : life_Life × (Option Int)) (H : Hp) (v : Value) : Prop := v = .tuple ⟨[.agg ⟨[.int .i64 r.1.f_Kind, .int .u32 r.1.f_Seen, .int .i64 r.1.f_Age, .int .i64 r.1.f_Missed]⟩, errV 106 r.2]⟩
abbrev life_Next.R (H0 : Hp) (L : Items) (r : life_Life × (Option Int)) : Value → Hp → Items → Prop := fun v H' L' => (∃ p, L' = p ++ L) ∧ H0.le H' ∧ life_Next.out r H' v
noncomputable def life_Next.j1 (k : Nat)  (r_0 : Int) (r_1 : Int) (r_2 : Int) (l_0 : Int) (l_1 : Int) (l_2 : Int) (l_3 : Int) : Option (life_Life × (Option Int)) := (life_Life_kind.f k (⟨l_0, l_1, l_2, l_3⟩ : life_Life) (⟨r_0, r_1, r_2⟩ : life_Rule)).bind fun y18 => some ((⟨y18, l_1, l_2, l_3⟩ : life_Life), none)
noncomputable def life_Next.f (k : Nat) (r_ : life_Rule) (l : life_Life) (hit : Bool) : Option (life_Life × (Option Int)) := (life_May.f k r_ l).bind fun y4 => if y4.isSome = true then (some ((⟨0, 0, 0, 0⟩ : life_Life), y4)) else ((life_Gone.f k l).bind fun y9 => if y9 = true then (some ((⟨0, 0, 0, 0⟩ : life_Life), some 14)) else (if 0 ≤ r_.f_Window then (if hit = true then (life_Next.j1 k r_.f_Hits r_.f_Window r_.f_Misses l.f_Kind (ior .u32 (iand .u32 ((l.f_Seen * 2) % 4294967296) ((((1 * 2 ^ shn .u32 r_.f_Window) % 4294967296) - 1) % 4294967296)) 1) (min (w64 (l.f_Age + 1)) r_.f_Window) 0) else (life_Next.j1 k r_.f_Hits r_.f_Window r_.f_Misses l.f_Kind (iand .u32 ((l.f_Seen * 2) % 4294967296) ((((1 * 2 ^ shn .u32 r_.f_Window) % 4294967296) - 1) % 4294967296)) (min (w64 (l.f_Age + 1)) r_.f_Window) (min (w64 (l.f_Missed + 1)) r_.f_Misses))) else none))
theorem life_Next.j1_mono {k : Nat} : ∀ y0 y1 y2 y3 y4 y5 y6, LeO (life_Next.j1 k y0 y1 y2 y3 y4 y5 y6) (life_Next.j1 (k + 1) y0 y1 y2 y3 y4 y5 y6) := fun _ _ _ _ _ _ _ => (LeO.bind (life_Life_kind.mono k _ _) fun _ => LeO.refl _)
theorem life_Next.mono : ∀ k y0 y1 y2, LeO (life_Next.f k y0 y1 y2) (life_Next.f (k + 1) y0 y1 y2) := fun k _ _ _ => by unfold life_Next.f; exact (LeO.bind (life_May.mono k _ _) fun _ => LeO.ite (LeO.refl _) (LeO.bind (life_Gone.mono k _) fun _ => LeO.ite (LeO.refl _) (LeO.ite (LeO.ite (life_Next.j1_mono (k := k)  _ _ _ _ _ _ _) (life_Next.j1_mono (k := k)  _ _ _ _ _ _ _)) (LeO.refl _))))
noncomputable def life_Next.Kj1 : List Item := .code (seqR (seqR (seqR (seqR (seqR (seqR (seqR life_Next.C))))))) :: []
theorem life_Next.j1_ok {k : Nat} {H0 H : Hp} {L : Items} {r : life_Life × (Option Int)} {jk_ : Nat → Value} {r_0 : Int} {r_1 : Int} {r_2 : Int} {l_0 : Int} {l_1 : Int} {l_2 : Int} {l_3 : Int} {b_r_ : Nat} {b_l : Nat} {b_t6 : Nat} (hle : H0.le H) (he : life_Next.j1 k r_0 r_1 r_2 l_0 l_1 l_2 l_3 = some r) : Wp Tryd.prog 61 54 life_Next.Kj1 (upd (upd (upd (upd jk_ 3 (.pointer (some ⟨b_r_, 0, none⟩))) 4 (.pointer (some ⟨b_l, 0, none⟩))) 6 (.pointer (some ⟨b_t6, 0, none⟩))) 7 (errV 106 none)) H (some (b_t6, .cells ⟨[.int .i64 0, .int .u32 0, .int .i64 0, .int .i64 0]⟩ 76 (0, 0)) :: some (b_l, .cells ⟨[.int .i64 l_0, .int .u32 l_1, .int .i64 l_2, .int .i64 l_3]⟩ 76 (0, 0)) :: some (b_r_, .cells ⟨[.int .i64 r_0, .int .i64 r_1, .int .i64 r_2]⟩ 60 (0, 0)) :: L) (life_Next.R H0 L r) := by
 unfold life_Next.j1 at he
 unfold life_Next.Kj1
 refine w_seq <| w_region rfl <| w_d rfl (d_loado (v := .agg ⟨[.int .i64 l_0, .int .u32 l_1, .int .i64 l_2, .int .i64 l_3]⟩) ty76 rfl (.there .here) rfl rfl rfl rfl) <| w_d rfl (d_loado (v := .agg ⟨[.int .i64 r_0, .int .i64 r_1, .int .i64 r_2]⟩) ty60 rfl (.there (.there .here)) rfl rfl rfl rfl) ?_
 obtain ⟨y18, hy19, he⟩ := Option.bind_eq_some_iff.1 he
 refine w_d rfl (call_d (o_call co83 (vs := [.agg ⟨[.int .i64 l_0, .int .u32 l_1, .int .i64 l_2, .int .i64 l_3]⟩, .agg ⟨[.int .i64 r_0, .int .i64 r_1, .int .i64 r_2]⟩]) rfl (life_Life_kind.calls k (l := ⟨l_0, l_1, l_2, l_3⟩) (r_ := ⟨r_0, r_1, r_2⟩) hy19))) <| w_d rfl (d_fld (o' := 0) Tryd.underlying76 rfl sz3 rfl rfl rfl) <| w_a0 rfl (o_store (v := .int .i64 y18) sz3 rfl rfl rfl rfl (one_cons rfl one_nil) (.there .here) (.here .done)) ?_
 rintro _ _ _ ⟨rfl, rfl, rfl⟩
 refine w_done <| w_seq <| w_region rfl <| w_d rfl (d_loado (v := .agg ⟨[.int .i64 y18, .int .u32 l_1, .int .i64 l_2, .int .i64 l_3]⟩) ty76 rfl (.there .here) rfl rfl rfl rfl) <| w_a0 rfl (o_store (v := .agg ⟨[.int .i64 y18, .int .u32 l_1, .int .i64 l_2, .int .i64 l_3]⟩) sz76 rfl rfl rfl rfl (one_cons rfl (one_cons rfl (one_cons rfl (one_cons rfl one_nil)))) .here (.here (.here (.here (.here .done))))) ?_
 rintro _ _ _ ⟨rfl, rfl, rfl⟩
 refine w_d rfl (d_assign (v := errV 106 none) rfl) <| w_done ?_
 obtain rfl := Option.some.inj he
 refine w_return fn_61 rs_61 (.box (v := .agg ⟨[.int .i64 y18, .int .u32 l_1, .int .i64 l_2, .int .i64 l_3]⟩) rfl ty76 rfl rfl .here rfl (.tmp (v := errV 106 none) rfl .nil)) <| ⟨⟨[_, _, _], rfl⟩, hle, rfl⟩
theorem life_Next.calls (k : Nat) {H : Hp} {L : Items} {r_ : life_Rule} {l : life_Life} {hit : Bool} {r : life_Life × (Option Int)} (he : life_Next.f k r_ l hit = some r) : Ct Tryd.prog 61 ⟨[.agg ⟨[.int .i64 r_.f_Hits, .int .i64 r_.f_Window, .int .i64 r_.f_Misses]⟩, .agg ⟨[.int .i64 l.f_Kind, .int .u32 l.f_Seen, .int .i64 l.f_Age, .int .i64 l.f_Missed]⟩, .bool hit]⟩ H L (fun v H' L' => L = L' ∧ H = H' ∧ v = .tuple ⟨[.agg ⟨[.int .i64 r.1.f_Kind, .int .u32 r.1.f_Seen, .int .i64 r.1.f_Age, .int .i64 r.1.f_Missed]⟩, errV 106 r.2]⟩) := by
 refine ct_outs (O := life_Next.out r) (fun _ _ h => h) ?_
 have hle : H.le H := .refl _
 unfold life_Next.f at he
 refine ct_enter (args := [_, _, _]) fn_61 rfl nt_61 rfl <| w_seq <| w_region rfl <| w_a rfl (o_box (v := .agg ⟨[.int .i64 r_.f_Hits, .int .i64 r_.f_Window, .int .i64 r_.f_Misses]⟩) rfl rfl) ?_
 rintro _ _ _ ⟨b1, rfl, rfl, rfl⟩
 refine w_a rfl (o_box (v := .agg ⟨[.int .i64 l.f_Kind, .int .u32 l.f_Seen, .int .i64 l.f_Age, .int .i64 l.f_Missed]⟩) rfl rfl) ?_
 rintro _ _ _ ⟨b2, rfl, rfl, rfl⟩
 refine w_a rfl (o_alloc zr76 rfl) ?_
 rintro _ _ _ ⟨b3, rfl, rfl, rfl⟩
 refine w_d rfl (d_assign (v := errV 106 none) rfl) <| w_done <| w_seq <| w_seq <| w_region rfl <| w_d rfl (d_loado (v := .agg ⟨[.int .i64 r_.f_Hits, .int .i64 r_.f_Window, .int .i64 r_.f_Misses]⟩) ty60 rfl (.there (.there .here)) rfl rfl rfl rfl) <| w_d rfl (d_loado (v := .agg ⟨[.int .i64 l.f_Kind, .int .u32 l.f_Seen, .int .i64 l.f_Age, .int .i64 l.f_Missed]⟩) ty76 rfl (.there .here) rfl rfl rfl rfl) ?_
 obtain ⟨y4, hy5, he⟩ := Option.bind_eq_some_iff.1 he
 refine w_d rfl (call_d (o_call co82 (vs := [.agg ⟨[.int .i64 r_.f_Hits, .int .i64 r_.f_Window, .int .i64 r_.f_Misses]⟩, .agg ⟨[.int .i64 l.f_Kind, .int .u32 l.f_Seen, .int .i64 l.f_Age, .int .i64 l.f_Missed]⟩]) rfl (life_May.calls k (r_ := r_) (l := l) hy5))) <| w_d rfl (d_assign (v := errV 106 y4) rfl) <| w_done <| w_seq <| w_region rfl <| w_d rfl (d_move (v := errV 106 y4) rfl) <| w_d rfl (d_nenil (e := y4) Tryd.underlying24 rfl) <| w_done ?_
 rcases its he with ⟨c8, he⟩ | ⟨c8, he⟩
 ·
  refine w_then rfl c8 <| w_seq <| w_region rfl <| w_d rfl (d_build (cs' := [.int .i64 0, .int .u32 0, .int .i64 0, .int .i64 0]) Tryd.underlying76 zr76 rfl (by kernel_rfl) (parts := []) rfl .nil) <| w_d rfl (d_move (v := errV 106 y4) rfl) <| w_a0 rfl (o_store (v := .agg ⟨[.int .i64 0, .int .u32 0, .int .i64 0, .int .i64 0]⟩) sz76 rfl rfl rfl rfl (one_cons rfl (one_cons rfl (one_cons rfl (one_cons rfl one_nil)))) .here (.here (.here (.here (.here .done))))) ?_
  rintro _ _ _ ⟨rfl, rfl, rfl⟩
  refine w_d rfl (d_assign (v := errV 106 y4) rfl) <| w_done ?_
  obtain rfl := Option.some.inj he
  refine w_return fn_61 rs_61 (.box (v := .agg ⟨[.int .i64 0, .int .u32 0, .int .i64 0, .int .i64 0]⟩) rfl ty76 rfl rfl .here rfl (.tmp (v := errV 106 y4) rfl .nil)) <| ⟨⟨[_, _, _], rfl⟩, hle, rfl⟩
 ·
  refine w_else rfl (Bool.eq_false_iff.2 c8) <| w_skip <| w_seq <| w_seq <| w_region rfl <| w_d rfl (d_loado (v := .agg ⟨[.int .i64 l.f_Kind, .int .u32 l.f_Seen, .int .i64 l.f_Age, .int .i64 l.f_Missed]⟩) ty76 rfl (.there .here) rfl rfl rfl rfl) ?_
  obtain ⟨y9, hy10, he⟩ := Option.bind_eq_some_iff.1 he
  refine w_d rfl (call_d (o_call co37 (vs := [.agg ⟨[.int .i64 l.f_Kind, .int .u32 l.f_Seen, .int .i64 l.f_Age, .int .i64 l.f_Missed]⟩]) rfl (life_Gone.calls k (l := l) hy10))) <| w_done ?_
  rcases its he with ⟨c13, he⟩ | ⟨c13, he⟩
  ·
   refine w_then rfl c13 <| w_seq <| w_region rfl <| w_d rfl (d_build (cs' := [.int .i64 0, .int .u32 0, .int .i64 0, .int .i64 0]) Tryd.underlying76 zr76 rfl (by kernel_rfl) (parts := []) rfl .nil) <| w_d rfl (d_iface (v := .int .i64 14) Tryd.underlying106 rfl rfl) <| w_a0 rfl (o_store (v := .agg ⟨[.int .i64 0, .int .u32 0, .int .i64 0, .int .i64 0]⟩) sz76 rfl rfl rfl rfl (one_cons rfl (one_cons rfl (one_cons rfl (one_cons rfl one_nil)))) .here (.here (.here (.here (.here .done))))) ?_
   rintro _ _ _ ⟨rfl, rfl, rfl⟩
   refine w_d rfl (d_assign (v := errV 106 (some 14)) rfl) <| w_done ?_
   obtain rfl := Option.some.inj he
   refine w_return fn_61 rs_61 (.box (v := .agg ⟨[.int .i64 0, .int .u32 0, .int .i64 0, .int .i64 0]⟩) rfl ty76 rfl rfl .here rfl (.tmp (v := errV 106 (some 14)) rfl .nil)) <| ⟨⟨[_, _, _], rfl⟩, hle, rfl⟩
  ·
   refine w_else rfl (Bool.eq_false_iff.2 c13) <| w_skip <| w_seq ?_
   obtain ⟨c14, he⟩ := rq he
   refine w_drawn (p := 7) (tl := [7, 8, 9]) [[], [(0, some 20)], [(1, some 21)], [], [(3, some 23)], [(4, some 24)], [(5, some 25)]] [some 20, some 21, some 22, some 23, some 24, some 25, some 26] (fctF (.is (.pointer (some ⟨b2, 1, none⟩)) :: .is (.int .u32 l.f_Seen) :: .is (.int .u32 ((l.f_Seen * 2) % 4294967296)) :: .is (.pointer (some ⟨b1, 1, none⟩)) :: .is (.int .i64 r_.f_Window) :: .is (.int .u32 ((1 * 2 ^ shn .u32 r_.f_Window) % 4294967296)) :: .is (.int .u32 ((((1 * 2 ^ shn .u32 r_.f_Window) % 4294967296) - 1) % 4294967296)) :: [])) (fun m_ => some (b3, .cells ⟨[.int .i64 0, .int .u32 0, .int .i64 0, .int .i64 0]⟩ 76 (0, 0)) :: some (b2, .cells ⟨[.int .i64 l.f_Kind, .int .u32 l.f_Seen, .int .i64 l.f_Age, .int .i64 l.f_Missed]⟩ 76 (0, 0)) :: some (b1, .cells ⟨[.int .i64 r_.f_Hits, .int .i64 r_.f_Window, .int .i64 r_.f_Misses]⟩ 60 (0, 0)) :: L) (fun _ => none) mixed (by kernel_rfl) (by kernel_rfl) rfl (fct_mono (by kernel_rfl)) ⟨(fun H' m_ hH hm_ hu_ => depK_nil <| s_d (m_ 0) rfl (d_fld (o' := 1) Tryd.underlying76 rfl sz74 rfl rfl rfl) (by exact rfl) rfl), (by rintro H' m_ hH hm_ hu_ _ rfl; exact depK_nil <| s_d (m_ 1) rfl (d_loado (v := .int .u32 l.f_Seen) ty74 rfl (.there .here) rfl rfl rfl rfl) (by exact rfl) rfl), (by rintro H' m_ hH hm_ hu_ _ rfl; exact depK_nil <| s_d (m_ 2) rfl (d_shl (c := (l.f_Seen * 2) % 4294967296) rfl rfl (by decide) rfl) (by exact rfl) rfl), (fun H' m_ hH hm_ hu_ => depK_nil <| s_d (m_ 3) rfl (d_fld (o' := 1) Tryd.underlying60 rfl sz3 rfl rfl rfl) (by exact rfl) rfl), (by rintro H' m_ hH hm_ hu_ _ rfl; exact depK_nil <| s_d (m_ 4) rfl (d_loado (v := .int .i64 r_.f_Window) ty3 rfl (.there (.there .here)) rfl rfl rfl rfl) (by exact rfl) rfl), (by rintro H' m_ hH hm_ hu_ _ rfl; exact depK_nil <| s_d (m_ 5) rfl (d_shl (c := (1 * 2 ^ shn .u32 r_.f_Window) % 4294967296) rfl rfl c14 rfl) (by exact rfl) rfl), (by rintro H' m_ hH hm_ hu_ _ rfl; exact depK_nil <| s_d (m_ 6) rfl (d_sub (c := (((1 * 2 ^ shn .u32 r_.f_Window) % 4294967296) - 1) % 4294967296) rfl rfl rfl) (by exact rfl) rfl), trivial⟩ ?_
   intro H15 e16
   rintro _ _ rfl _ _ rfl _ _ rfl _ _ rfl _ _ rfl _ _ rfl _ _ rfl
   refine w_d rfl (d_band rfl rfl) <| w_d rfl (d_fld (o' := 1) Tryd.underlying76 rfl sz74 rfl rfl rfl) <| w_a0 rfl (o_store (v := .int .u32 (iand .u32 ((l.f_Seen * 2) % 4294967296) ((((1 * 2 ^ shn .u32 r_.f_Window) % 4294967296) - 1) % 4294967296))) sz74 rfl rfl rfl rfl (one_cons rfl one_nil) (.there .here) (.there (.here .done))) ?_
   rintro _ _ _ ⟨rfl, rfl, rfl⟩
   refine w_done <| w_seq <| w_region rfl <| w_d rfl (d_fld (o' := 2) Tryd.underlying76 rfl sz3 rfl rfl rfl) <| w_d rfl (d_loado (v := .int .i64 l.f_Age) ty3 rfl (.there .here) rfl rfl rfl rfl) <| w_d rfl (d_add (c := w64 (l.f_Age + 1)) rfl rfl rfl) <| w_d rfl (d_fld (o' := 1) Tryd.underlying60 rfl sz3 rfl rfl rfl) <| w_d rfl (d_loado (v := .int .i64 r_.f_Window) ty3 rfl (.there (.there .here)) rfl rfl rfl rfl) <| w_d rfl (d_min rfl rfl) <| w_d rfl (d_fld (o' := 2) Tryd.underlying76 rfl sz3 rfl rfl rfl) <| w_a0 rfl (o_store (v := .int .i64 (min (w64 (l.f_Age + 1)) r_.f_Window)) sz3 rfl rfl rfl rfl (one_cons rfl one_nil) (.there .here) (.there (.there (.here .done)))) ?_
   rintro _ _ _ ⟨rfl, rfl, rfl⟩
   refine w_done <| w_seq <| w_region rfl <| w_d rfl (d_fld (o' := 3) Tryd.underlying76 rfl sz3 rfl rfl rfl) <| w_d rfl (d_loado (v := .int .i64 l.f_Missed) ty3 rfl (.there .here) rfl rfl rfl rfl) <| w_d rfl (d_add (c := w64 (l.f_Missed + 1)) rfl rfl rfl) <| w_d rfl (d_fld (o' := 2) Tryd.underlying60 rfl sz3 rfl rfl rfl) <| w_d rfl (d_loado (v := .int .i64 r_.f_Misses) ty3 rfl (.there (.there .here)) rfl rfl rfl rfl) <| w_d rfl (d_min rfl rfl) <| w_d rfl (d_fld (o' := 3) Tryd.underlying76 rfl sz3 rfl rfl rfl) <| w_a0 rfl (o_store (v := .int .i64 (min (w64 (l.f_Missed + 1)) r_.f_Misses)) sz3 rfl rfl rfl rfl (one_cons rfl one_nil) (.there .here) (.there (.there (.there (.here .done))))) ?_
   rintro _ _ _ ⟨rfl, rfl, rfl⟩
   refine w_done <| w_seq <| w_seq <| w_region rfl <| w_d rfl (d_move (v := .bool hit) rfl) <| w_done ?_
   rcases its he with ⟨c17, he⟩ | ⟨c17, he⟩
   ·
    refine w_then rfl c17 <| w_seq <| w_region rfl <| w_d rfl (d_fld (o' := 1) Tryd.underlying76 rfl sz74 rfl rfl rfl) <| w_d rfl (d_loado (v := .int .u32 (iand .u32 ((l.f_Seen * 2) % 4294967296) ((((1 * 2 ^ shn .u32 r_.f_Window) % 4294967296) - 1) % 4294967296))) ty74 rfl (.there .here) rfl rfl rfl rfl) <| w_d rfl (d_bor rfl rfl) <| w_d rfl (d_fld (o' := 1) Tryd.underlying76 rfl sz74 rfl rfl rfl) <| w_a0 rfl (o_store (v := .int .u32 (ior .u32 (iand .u32 ((l.f_Seen * 2) % 4294967296) ((((1 * 2 ^ shn .u32 r_.f_Window) % 4294967296) - 1) % 4294967296)) 1)) sz74 rfl rfl rfl rfl (one_cons rfl one_nil) (.there .here) (.there (.here .done))) ?_
    rintro _ _ _ ⟨rfl, rfl, rfl⟩
    refine w_done <| w_region rfl <| w_d rfl (d_fld (o' := 3) Tryd.underlying76 rfl sz3 rfl rfl rfl) <| w_a0 rfl (o_store (v := .int .i64 0) sz3 rfl rfl rfl rfl (one_cons rfl one_nil) (.there .here) (.there (.there (.there (.here .done))))) ?_
    rintro _ _ _ ⟨rfl, rfl, rfl⟩
    refine w_done <| w_sl 3 (.pointer (some ⟨b1, 0, none⟩)) rfl <| w_sl 4 (.pointer (some ⟨b2, 0, none⟩)) rfl <| w_sl 6 (.pointer (some ⟨b3, 0, none⟩)) rfl <| w_sl 7 (errV 106 none) rfl <| life_Next.j1_ok (k := k) (hle.trans e16) he
   ·
    refine w_else rfl (Bool.eq_false_iff.2 c17) <| w_skip <| w_sl 3 (.pointer (some ⟨b1, 0, none⟩)) rfl <| w_sl 4 (.pointer (some ⟨b2, 0, none⟩)) rfl <| w_sl 6 (.pointer (some ⟨b3, 0, none⟩)) rfl <| w_sl 7 (errV 106 none) rfl <| life_Next.j1_ok (k := k) (hle.trans e16) he
end Go.Proofs.YtjhpkkhcgpilfaaDoor.GTO

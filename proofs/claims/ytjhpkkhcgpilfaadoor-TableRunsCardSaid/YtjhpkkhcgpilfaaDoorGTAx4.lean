/- A text of this session, written by a program (wip/k/gen.py): Go functions as Lean functions, and proofs that the code comes to them. -/
import Derived.Test.YtjhpkkhcgpilfaaDoorGTAx3
namespace Go.Proofs.YtjhpkkhcgpilfaaDoor.GTA
open Go Go.RowKit Go.Proofs.YtjhpkkhcgpilfaaDoorK Go.Proofs.YtjhpkkhcgpilfaaDoor
set_option maxRecDepth 100000
set_option maxHeartbeats 2000000
set_option linter.unusedVariables false
set_option linter.unusedSimpArgs false
/-! ### radome/radomelaw25.rowsOf -/
noncomputable def radomelaw25_rowsOf.C : Code := (Tryd.f105.body).getD .skip
abbrev radomelaw25_rowsOf.out (r : (List (List Int))) (H : Hp) (v : Value) : Prop := Ro (Kd.slice (Kd.int .i64)) H v r
abbrev radomelaw25_rowsOf.R (H0 : Hp) (L : Items) (r : (List (List Int))) : Value → Hp → Items → Prop := fun v H' L' => (∃ p, L' = p ++ L) ∧ H0.le H' ∧ radomelaw25_rowsOf.out r H' v
structure radomelaw25_rowsOf.Hs where
 l0 : mat_Mat → (List (List Int)) → (List (List Int)) → Int → Option (List (List Int))
noncomputable def radomelaw25_rowsOf.b0 (k : Nat) (h : radomelaw25_rowsOf.Hs)  (m_1 : mat_Mat) (t2 : List (List Int)) (out : List (List Int)) (i : Int) : Option (List (List Int)) := if i < m_1.f_Rows then ((mat_Mat_Row.f k m_1 i).bind fun y8 => if y8.2.isSome = true then (some ([])) else (if out.length + 1 ≤ 5864062014677 then (h.l0 m_1 t2 (out ++ [y8.1]) (w64 (i + 1))) else none)) else (some (out))
noncomputable def radomelaw25_rowsOf.hs : Nat → radomelaw25_rowsOf.Hs
 | 0 => ⟨fun _ _ _ _ => none⟩
 | k + 1 => ⟨fun x0 x1 x2 x3 => radomelaw25_rowsOf.b0 k (radomelaw25_rowsOf.hs k) x0 x1 x2 x3⟩
noncomputable def radomelaw25_rowsOf.f (k : Nat) (m : mat_Mat) : Option (List (List Int)) := (fun h : radomelaw25_rowsOf.Hs => (mat_Check.f k m).bind fun y2 => if y2.isSome = true then (some ([])) else (h.l0 m [] [] 0)) (radomelaw25_rowsOf.hs k)
structure radomelaw25_rowsOf.LE (h h' : radomelaw25_rowsOf.Hs) : Prop where
 l0 : ∀ y0 y1 y2 y3, LeO (h.l0 y0 y1 y2 y3) (h'.l0 y0 y1 y2 y3)
theorem radomelaw25_rowsOf.b0_mono {k : Nat} {h h' : radomelaw25_rowsOf.Hs} (hl : radomelaw25_rowsOf.LE h h') : ∀ y0 y1 y2 y3, LeO (radomelaw25_rowsOf.b0 k h y0 y1 y2 y3) (radomelaw25_rowsOf.b0 (k + 1) h' y0 y1 y2 y3) := fun _ _ _ _ => (LeO.ite (LeO.bind (mat_Mat_Row.mono k _ _) fun _ => LeO.ite (LeO.refl _) (LeO.ite (hl.l0 _ _ _ _) (LeO.refl _))) (LeO.refl _))
theorem radomelaw25_rowsOf.hs_mono : ∀ k, radomelaw25_rowsOf.LE (radomelaw25_rowsOf.hs k) (radomelaw25_rowsOf.hs (k + 1))
 | 0 => ⟨fun _ _ _ _ => LeO.none _⟩
 | k + 1 => ⟨radomelaw25_rowsOf.b0_mono (k := k) (radomelaw25_rowsOf.hs_mono k)⟩
theorem radomelaw25_rowsOf.mono : ∀ k y0, LeO (radomelaw25_rowsOf.f k y0) (radomelaw25_rowsOf.f (k + 1) y0) := fun k _ => have hl := radomelaw25_rowsOf.hs_mono k; by unfold radomelaw25_rowsOf.f; exact (LeO.bind (mat_Check.mono k _) fun _ => LeO.ite (LeO.refl _) (hl.l0 _ _ _ _))
noncomputable def radomelaw25_rowsOf.Kl0 : List Item := .code (lopB (blkB (seqR (seqL (seqR (seqR (seqR radomelaw25_rowsOf.C))))))) :: .inLoop (lopB (blkB (seqR (seqL (seqR (seqR (seqR radomelaw25_rowsOf.C))))))) :: .inBlock 0 :: .code (seqR (seqR (seqR (seqR radomelaw25_rowsOf.C)))) :: []
structure radomelaw25_rowsOf.OK (h : radomelaw25_rowsOf.Hs) : Prop where
 l0 : ∀ {H0 H : Hp} {L : Items} {r : (List (List Int))} {jk_ : Nat → Value} {m_1 : mat_Mat} {t2 : List (List Int)} {out : List (List Int)} {i : Int} {v_t2 : Value} {v_out : Value} {i_out : Item'} {b_m : Nat} (_ : H0.le H) (_he : h.l0 m_1 t2 out i = some r) (_h_t2 : Ro (Kd.slice (Kd.int .i64)) H v_t2 t2) (_h_out : Sl (Kd.slice (Kd.int .i64)) H 43 i_out v_out out), Wp Tryd.prog 105 29 radomelaw25_rowsOf.Kl0 (upd (upd (upd (upd jk_ 1 (.pointer (some ⟨b_m, 0, none⟩))) 2 (v_t2)) 3 (v_out)) 4 (.int .i64 i)) H (i_out :: some (b_m, .cells ⟨(.int .i64 m_1.f_Rows :: .int .i64 m_1.f_Cols :: .int .i64 m_1.f_A.e0 :: .int .i64 m_1.f_A.e1 :: .int .i64 m_1.f_A.e2 :: .int .i64 m_1.f_A.e3 :: .int .i64 m_1.f_A.e4 :: .int .i64 m_1.f_A.e5 :: .int .i64 m_1.f_A.e6 :: .int .i64 m_1.f_A.e7 :: .int .i64 m_1.f_A.e8 :: .int .i64 m_1.f_A.e9 :: .int .i64 m_1.f_A.e10 :: .int .i64 m_1.f_A.e11 :: .int .i64 m_1.f_A.e12 :: .int .i64 m_1.f_A.e13 :: .int .i64 m_1.f_A.e14 :: .int .i64 m_1.f_A.e15 :: .int .i64 m_1.f_A.e16 :: .int .i64 m_1.f_A.e17 :: .int .i64 m_1.f_A.e18 :: .int .i64 m_1.f_A.e19 :: .int .i64 m_1.f_A.e20 :: .int .i64 m_1.f_A.e21 :: .int .i64 m_1.f_A.e22 :: .int .i64 m_1.f_A.e23 :: .int .i64 m_1.f_A.e24 :: .int .i64 m_1.f_A.e25 :: .int .i64 m_1.f_A.e26 :: .int .i64 m_1.f_A.e27 :: .int .i64 m_1.f_A.e28 :: .int .i64 m_1.f_A.e29 :: .int .i64 m_1.f_A.e30 :: .int .i64 m_1.f_A.e31 :: .int .i64 m_1.f_A.e32 :: .int .i64 m_1.f_A.e33 :: .int .i64 m_1.f_A.e34 :: .int .i64 m_1.f_A.e35 :: [])⟩ 175 (0, 0)) :: L) (radomelaw25_rowsOf.R H0 L r)
theorem radomelaw25_rowsOf.b0_ok {k : Nat} {h : radomelaw25_rowsOf.Hs} (hh : radomelaw25_rowsOf.OK h) {H0 H : Hp} {L : Items} {r : (List (List Int))} {jk_ : Nat → Value} {m_1 : mat_Mat} {t2 : List (List Int)} {out : List (List Int)} {i : Int} {v_t2 : Value} {v_out : Value} {i_out : Item'} {b_m : Nat} (hle : H0.le H) (he : radomelaw25_rowsOf.b0 k h m_1 t2 out i = some r) (h_t2 : Ro (Kd.slice (Kd.int .i64)) H v_t2 t2) (h_out : Sl (Kd.slice (Kd.int .i64)) H 43 i_out v_out out) : Wp Tryd.prog 105 29 radomelaw25_rowsOf.Kl0 (upd (upd (upd (upd jk_ 1 (.pointer (some ⟨b_m, 0, none⟩))) 2 (v_t2)) 3 (v_out)) 4 (.int .i64 i)) H (i_out :: some (b_m, .cells ⟨(.int .i64 m_1.f_Rows :: .int .i64 m_1.f_Cols :: .int .i64 m_1.f_A.e0 :: .int .i64 m_1.f_A.e1 :: .int .i64 m_1.f_A.e2 :: .int .i64 m_1.f_A.e3 :: .int .i64 m_1.f_A.e4 :: .int .i64 m_1.f_A.e5 :: .int .i64 m_1.f_A.e6 :: .int .i64 m_1.f_A.e7 :: .int .i64 m_1.f_A.e8 :: .int .i64 m_1.f_A.e9 :: .int .i64 m_1.f_A.e10 :: .int .i64 m_1.f_A.e11 :: .int .i64 m_1.f_A.e12 :: .int .i64 m_1.f_A.e13 :: .int .i64 m_1.f_A.e14 :: .int .i64 m_1.f_A.e15 :: .int .i64 m_1.f_A.e16 :: .int .i64 m_1.f_A.e17 :: .int .i64 m_1.f_A.e18 :: .int .i64 m_1.f_A.e19 :: .int .i64 m_1.f_A.e20 :: .int .i64 m_1.f_A.e21 :: .int .i64 m_1.f_A.e22 :: .int .i64 m_1.f_A.e23 :: .int .i64 m_1.f_A.e24 :: .int .i64 m_1.f_A.e25 :: .int .i64 m_1.f_A.e26 :: .int .i64 m_1.f_A.e27 :: .int .i64 m_1.f_A.e28 :: .int .i64 m_1.f_A.e29 :: .int .i64 m_1.f_A.e30 :: .int .i64 m_1.f_A.e31 :: .int .i64 m_1.f_A.e32 :: .int .i64 m_1.f_A.e33 :: .int .i64 m_1.f_A.e34 :: .int .i64 m_1.f_A.e35 :: [])⟩ 175 (0, 0)) :: L) (radomelaw25_rowsOf.R H0 L r) := by
 unfold radomelaw25_rowsOf.b0 at he
 unfold radomelaw25_rowsOf.Kl0
 refine w_seq <| w_seq <| w_region rfl <| w_d rfl (d_move (v := .int .i64 i) rfl) <| w_d rfl (d_fld (o' := 0) Tryd.underlying175 rfl sz3 rfl rfl rfl) <| w_d rfl (d_loado (v := .int .i64 m_1.f_Rows) ty3 rfl (.there .here) rfl rfl rfl rfl) <| w_d rfl (d_lss rfl rfl) <| w_done ?_
 rcases its he with ⟨c7, he⟩ | ⟨c7, he⟩
 ·
  refine w_then rfl (decide_eq_true c7) <| w_skip <| w_seq <| w_block <| w_seq <| w_region rfl <| w_d rfl (d_loado (v := .agg ⟨(.int .i64 m_1.f_Rows :: .int .i64 m_1.f_Cols :: .int .i64 m_1.f_A.e0 :: .int .i64 m_1.f_A.e1 :: .int .i64 m_1.f_A.e2 :: .int .i64 m_1.f_A.e3 :: .int .i64 m_1.f_A.e4 :: .int .i64 m_1.f_A.e5 :: .int .i64 m_1.f_A.e6 :: .int .i64 m_1.f_A.e7 :: .int .i64 m_1.f_A.e8 :: .int .i64 m_1.f_A.e9 :: .int .i64 m_1.f_A.e10 :: .int .i64 m_1.f_A.e11 :: .int .i64 m_1.f_A.e12 :: .int .i64 m_1.f_A.e13 :: .int .i64 m_1.f_A.e14 :: .int .i64 m_1.f_A.e15 :: .int .i64 m_1.f_A.e16 :: .int .i64 m_1.f_A.e17 :: .int .i64 m_1.f_A.e18 :: .int .i64 m_1.f_A.e19 :: .int .i64 m_1.f_A.e20 :: .int .i64 m_1.f_A.e21 :: .int .i64 m_1.f_A.e22 :: .int .i64 m_1.f_A.e23 :: .int .i64 m_1.f_A.e24 :: .int .i64 m_1.f_A.e25 :: .int .i64 m_1.f_A.e26 :: .int .i64 m_1.f_A.e27 :: .int .i64 m_1.f_A.e28 :: .int .i64 m_1.f_A.e29 :: .int .i64 m_1.f_A.e30 :: .int .i64 m_1.f_A.e31 :: .int .i64 m_1.f_A.e32 :: .int .i64 m_1.f_A.e33 :: .int .i64 m_1.f_A.e34 :: .int .i64 m_1.f_A.e35 :: [])⟩) ty175 rfl (.there .here) rfl rfl rfl rfl) <| w_d rfl (d_move (v := .int .i64 i) rfl) ?_
  obtain ⟨y8, hy9, he⟩ := Option.bind_eq_some_iff.1 he
  refine w_a rfl (o_call co116 (vs := [.agg ⟨(.int .i64 m_1.f_Rows :: .int .i64 m_1.f_Cols :: .int .i64 m_1.f_A.e0 :: .int .i64 m_1.f_A.e1 :: .int .i64 m_1.f_A.e2 :: .int .i64 m_1.f_A.e3 :: .int .i64 m_1.f_A.e4 :: .int .i64 m_1.f_A.e5 :: .int .i64 m_1.f_A.e6 :: .int .i64 m_1.f_A.e7 :: .int .i64 m_1.f_A.e8 :: .int .i64 m_1.f_A.e9 :: .int .i64 m_1.f_A.e10 :: .int .i64 m_1.f_A.e11 :: .int .i64 m_1.f_A.e12 :: .int .i64 m_1.f_A.e13 :: .int .i64 m_1.f_A.e14 :: .int .i64 m_1.f_A.e15 :: .int .i64 m_1.f_A.e16 :: .int .i64 m_1.f_A.e17 :: .int .i64 m_1.f_A.e18 :: .int .i64 m_1.f_A.e19 :: .int .i64 m_1.f_A.e20 :: .int .i64 m_1.f_A.e21 :: .int .i64 m_1.f_A.e22 :: .int .i64 m_1.f_A.e23 :: .int .i64 m_1.f_A.e24 :: .int .i64 m_1.f_A.e25 :: .int .i64 m_1.f_A.e26 :: .int .i64 m_1.f_A.e27 :: .int .i64 m_1.f_A.e28 :: .int .i64 m_1.f_A.e29 :: .int .i64 m_1.f_A.e30 :: .int .i64 m_1.f_A.e31 :: .int .i64 m_1.f_A.e32 :: .int .i64 m_1.f_A.e33 :: .int .i64 m_1.f_A.e34 :: .int .i64 m_1.f_A.e35 :: [])⟩, .int .i64 i]) rfl (mat_Mat_Row.calls k (m := m_1) hy9)) ?_
  rintro _ H10 _ ⟨rfl, e11, ⟨v12, rfl, h13⟩⟩
  refine w_d rfl (d_move (v := .tuple ⟨[v12, errV 106 y8.2]⟩) rfl) <| w_d rfl (d_ext (vs := [v12, errV 106 y8.2]) rfl rfl) <| w_d rfl (d_ext (vs := [v12, errV 106 y8.2]) rfl rfl) <| w_d rfl (d_assign (v := v12) rfl) <| w_d rfl (d_assign (v := errV 106 y8.2) rfl) <| w_done <| w_seq <| w_seq <| w_region rfl <| w_d rfl (d_move (v := errV 106 y8.2) rfl) <| w_d rfl (d_nenil (e := y8.2) Tryd.underlying24 rfl) <| w_done ?_
  rcases its he with ⟨c14, he⟩ | ⟨c14, he⟩
  ·
   refine w_then rfl c14 <| w_seq <| w_region rfl <| w_d rfl (d_assign (v := .slice none 0 0) rfl) <| w_done ?_
   obtain rfl := Option.some.inj he
   refine w_return fn_105 rs_105 (.tmp (v := .slice none 0 0) rfl .nil) <| ⟨⟨[_, _], rfl⟩, hle.trans e11, (ro_nil _ _)⟩
  ·
   refine w_else rfl (Bool.eq_false_iff.2 c14) <| w_skip <| w_region rfl <| w_d rfl (d_move (v := v_out) rfl) <| w_d rfl (d_move (v := v12) rfl) <| w_a rfl (o_buildSlice' (kd := (Kd.slice (Kd.int .i64))) (css := [[v12]]) (xs := [y8.1]) (parts := [(0, v12)]) Tryd.underlying137 ti43 rfl ⟨_, _, rfl, h13.cells, rfl⟩ ⟨⟨_, rfl, h13⟩, trivial⟩ rfl (by decide)) ?_
   rintro v15 _ _ ⟨i16, rfl, rfl, h17⟩
   obtain ⟨c18, he⟩ := rq he
   refine w_a rfl (o_append' (kd := (Kd.slice (Kd.int .i64))) (F := fun z_ => i16 :: z_ :: some (b_m, .cells ⟨(.int .i64 m_1.f_Rows :: .int .i64 m_1.f_Cols :: .int .i64 m_1.f_A.e0 :: .int .i64 m_1.f_A.e1 :: .int .i64 m_1.f_A.e2 :: .int .i64 m_1.f_A.e3 :: .int .i64 m_1.f_A.e4 :: .int .i64 m_1.f_A.e5 :: .int .i64 m_1.f_A.e6 :: .int .i64 m_1.f_A.e7 :: .int .i64 m_1.f_A.e8 :: .int .i64 m_1.f_A.e9 :: .int .i64 m_1.f_A.e10 :: .int .i64 m_1.f_A.e11 :: .int .i64 m_1.f_A.e12 :: .int .i64 m_1.f_A.e13 :: .int .i64 m_1.f_A.e14 :: .int .i64 m_1.f_A.e15 :: .int .i64 m_1.f_A.e16 :: .int .i64 m_1.f_A.e17 :: .int .i64 m_1.f_A.e18 :: .int .i64 m_1.f_A.e19 :: .int .i64 m_1.f_A.e20 :: .int .i64 m_1.f_A.e21 :: .int .i64 m_1.f_A.e22 :: .int .i64 m_1.f_A.e23 :: .int .i64 m_1.f_A.e24 :: .int .i64 m_1.f_A.e25 :: .int .i64 m_1.f_A.e26 :: .int .i64 m_1.f_A.e27 :: .int .i64 m_1.f_A.e28 :: .int .i64 m_1.f_A.e29 :: .int .i64 m_1.f_A.e30 :: .int .i64 m_1.f_A.e31 :: .int .i64 m_1.f_A.e32 :: .int .i64 m_1.f_A.e33 :: .int .i64 m_1.f_A.e34 :: .int .i64 m_1.f_A.e35 :: [])⟩ 175 (0, 0)) :: L) Tryd.underlying137 Tryd.underlying137 ti43 rfl (by first | omega | (simp only [List.nil_append, List.length_cons, List.length_nil]; omega)) rfl rfl (h_out.mono e11) (h17.src .here) (fun _ => (.there .here))) ?_
   rintro v19 _ _ ⟨i20, rfl, rfl, h21⟩
   refine w_d rfl (d_assign (v := v19) rfl) <| w_done <| w_inBlock <| w_region rfl <| w_d rfl (d_move (v := .int .i64 i) rfl) <| w_d rfl (d_add (c := w64 (i + 1)) rfl rfl rfl) <| w_d rfl (d_assign (v := .int .i64 (w64 (i + 1))) rfl) <| w_done <| w_inLoop <| w_del .here <| w_sl 1 (.pointer (some ⟨b_m, 0, none⟩)) rfl <| w_sl 2 (v_t2) rfl ?_
   refine w_sl 3 (v19) rfl <| w_sl 4 (.int .i64 (w64 (i + 1))) rfl <| hh.l0 (hle.trans e11) he (h_t2.mono e11) h21
 ·
  refine w_else rfl (decide_eq_false c7) <| w_exit rfl <| w_seq <| w_region rfl <| w_d rfl (d_move (v := v_out) rfl) <| w_d rfl (d_assign (v := v_out) rfl) <| w_done <| w_freeze h_out .here ?_
  intro H22 e23 h24
  obtain rfl := Option.some.inj he
  refine w_return fn_105 rs_105 (.tmp (v := v_out) rfl .nil) <| ⟨⟨[_, _], rfl⟩, hle.trans e23, h24⟩
theorem radomelaw25_rowsOf.ok : ∀ k, radomelaw25_rowsOf.OK (radomelaw25_rowsOf.hs k)
 | 0 => ⟨(by intros; exact nomatch (show none = some _ from by assumption))⟩
 | k + 1 => ⟨radomelaw25_rowsOf.b0_ok (k := k) (radomelaw25_rowsOf.ok k)⟩
theorem radomelaw25_rowsOf.calls (k : Nat) {H : Hp} {L : Items} {m : mat_Mat} {r : (List (List Int))} (he : radomelaw25_rowsOf.f k m = some r) : Ct Tryd.prog 105 ⟨[.agg ⟨(.int .i64 m.f_Rows :: .int .i64 m.f_Cols :: .int .i64 m.f_A.e0 :: .int .i64 m.f_A.e1 :: .int .i64 m.f_A.e2 :: .int .i64 m.f_A.e3 :: .int .i64 m.f_A.e4 :: .int .i64 m.f_A.e5 :: .int .i64 m.f_A.e6 :: .int .i64 m.f_A.e7 :: .int .i64 m.f_A.e8 :: .int .i64 m.f_A.e9 :: .int .i64 m.f_A.e10 :: .int .i64 m.f_A.e11 :: .int .i64 m.f_A.e12 :: .int .i64 m.f_A.e13 :: .int .i64 m.f_A.e14 :: .int .i64 m.f_A.e15 :: .int .i64 m.f_A.e16 :: .int .i64 m.f_A.e17 :: .int .i64 m.f_A.e18 :: .int .i64 m.f_A.e19 :: .int .i64 m.f_A.e20 :: .int .i64 m.f_A.e21 :: .int .i64 m.f_A.e22 :: .int .i64 m.f_A.e23 :: .int .i64 m.f_A.e24 :: .int .i64 m.f_A.e25 :: .int .i64 m.f_A.e26 :: .int .i64 m.f_A.e27 :: .int .i64 m.f_A.e28 :: .int .i64 m.f_A.e29 :: .int .i64 m.f_A.e30 :: .int .i64 m.f_A.e31 :: .int .i64 m.f_A.e32 :: .int .i64 m.f_A.e33 :: .int .i64 m.f_A.e34 :: .int .i64 m.f_A.e35 :: [])⟩]⟩ H L (fun v H' L' => L = L' ∧ H.le H' ∧ radomelaw25_rowsOf.out r H' v) := by
 refine ct_out (O := radomelaw25_rowsOf.out r) ?_
 have hle : H.le H := .refl _
 have hh := radomelaw25_rowsOf.ok k
 unfold radomelaw25_rowsOf.f at he
 refine ct_enter (args := [_]) fn_105 rfl nt_105 rfl <| w_seq <| w_region rfl <| w_a rfl (o_box (v := .agg ⟨(.int .i64 m.f_Rows :: .int .i64 m.f_Cols :: .int .i64 m.f_A.e0 :: .int .i64 m.f_A.e1 :: .int .i64 m.f_A.e2 :: .int .i64 m.f_A.e3 :: .int .i64 m.f_A.e4 :: .int .i64 m.f_A.e5 :: .int .i64 m.f_A.e6 :: .int .i64 m.f_A.e7 :: .int .i64 m.f_A.e8 :: .int .i64 m.f_A.e9 :: .int .i64 m.f_A.e10 :: .int .i64 m.f_A.e11 :: .int .i64 m.f_A.e12 :: .int .i64 m.f_A.e13 :: .int .i64 m.f_A.e14 :: .int .i64 m.f_A.e15 :: .int .i64 m.f_A.e16 :: .int .i64 m.f_A.e17 :: .int .i64 m.f_A.e18 :: .int .i64 m.f_A.e19 :: .int .i64 m.f_A.e20 :: .int .i64 m.f_A.e21 :: .int .i64 m.f_A.e22 :: .int .i64 m.f_A.e23 :: .int .i64 m.f_A.e24 :: .int .i64 m.f_A.e25 :: .int .i64 m.f_A.e26 :: .int .i64 m.f_A.e27 :: .int .i64 m.f_A.e28 :: .int .i64 m.f_A.e29 :: .int .i64 m.f_A.e30 :: .int .i64 m.f_A.e31 :: .int .i64 m.f_A.e32 :: .int .i64 m.f_A.e33 :: .int .i64 m.f_A.e34 :: .int .i64 m.f_A.e35 :: [])⟩) rfl rfl) ?_
 rintro _ _ _ ⟨b1, rfl, rfl, rfl⟩
 refine w_d rfl (d_assign (v := .slice none 0 0) rfl) <| w_done <| w_seq <| w_seq <| w_region rfl <| w_d rfl (d_loado (v := .agg ⟨(.int .i64 m.f_Rows :: .int .i64 m.f_Cols :: .int .i64 m.f_A.e0 :: .int .i64 m.f_A.e1 :: .int .i64 m.f_A.e2 :: .int .i64 m.f_A.e3 :: .int .i64 m.f_A.e4 :: .int .i64 m.f_A.e5 :: .int .i64 m.f_A.e6 :: .int .i64 m.f_A.e7 :: .int .i64 m.f_A.e8 :: .int .i64 m.f_A.e9 :: .int .i64 m.f_A.e10 :: .int .i64 m.f_A.e11 :: .int .i64 m.f_A.e12 :: .int .i64 m.f_A.e13 :: .int .i64 m.f_A.e14 :: .int .i64 m.f_A.e15 :: .int .i64 m.f_A.e16 :: .int .i64 m.f_A.e17 :: .int .i64 m.f_A.e18 :: .int .i64 m.f_A.e19 :: .int .i64 m.f_A.e20 :: .int .i64 m.f_A.e21 :: .int .i64 m.f_A.e22 :: .int .i64 m.f_A.e23 :: .int .i64 m.f_A.e24 :: .int .i64 m.f_A.e25 :: .int .i64 m.f_A.e26 :: .int .i64 m.f_A.e27 :: .int .i64 m.f_A.e28 :: .int .i64 m.f_A.e29 :: .int .i64 m.f_A.e30 :: .int .i64 m.f_A.e31 :: .int .i64 m.f_A.e32 :: .int .i64 m.f_A.e33 :: .int .i64 m.f_A.e34 :: .int .i64 m.f_A.e35 :: [])⟩) ty175 rfl .here rfl rfl rfl rfl) ?_
 obtain ⟨y2, hy3, he⟩ := Option.bind_eq_some_iff.1 he
 refine w_d rfl (call_d (o_call co115 (vs := [.agg ⟨(.int .i64 m.f_Rows :: .int .i64 m.f_Cols :: .int .i64 m.f_A.e0 :: .int .i64 m.f_A.e1 :: .int .i64 m.f_A.e2 :: .int .i64 m.f_A.e3 :: .int .i64 m.f_A.e4 :: .int .i64 m.f_A.e5 :: .int .i64 m.f_A.e6 :: .int .i64 m.f_A.e7 :: .int .i64 m.f_A.e8 :: .int .i64 m.f_A.e9 :: .int .i64 m.f_A.e10 :: .int .i64 m.f_A.e11 :: .int .i64 m.f_A.e12 :: .int .i64 m.f_A.e13 :: .int .i64 m.f_A.e14 :: .int .i64 m.f_A.e15 :: .int .i64 m.f_A.e16 :: .int .i64 m.f_A.e17 :: .int .i64 m.f_A.e18 :: .int .i64 m.f_A.e19 :: .int .i64 m.f_A.e20 :: .int .i64 m.f_A.e21 :: .int .i64 m.f_A.e22 :: .int .i64 m.f_A.e23 :: .int .i64 m.f_A.e24 :: .int .i64 m.f_A.e25 :: .int .i64 m.f_A.e26 :: .int .i64 m.f_A.e27 :: .int .i64 m.f_A.e28 :: .int .i64 m.f_A.e29 :: .int .i64 m.f_A.e30 :: .int .i64 m.f_A.e31 :: .int .i64 m.f_A.e32 :: .int .i64 m.f_A.e33 :: .int .i64 m.f_A.e34 :: .int .i64 m.f_A.e35 :: [])⟩]) rfl (mat_Check.calls k (m := m) hy3))) <| w_d rfl (d_nenil (e := y2) Tryd.underlying24 rfl) <| w_done ?_
 rcases its he with ⟨c6, he⟩ | ⟨c6, he⟩
 ·
  refine w_then rfl c6 <| w_seq <| w_region rfl <| w_d rfl (d_assign (v := .slice none 0 0) rfl) <| w_done ?_
  obtain rfl := Option.some.inj he
  refine w_return fn_105 rs_105 (.tmp (v := .slice none 0 0) rfl .nil) <| ⟨⟨[_], rfl⟩, hle, (ro_nil _ _)⟩
 ·
  refine w_else rfl (Bool.eq_false_iff.2 c6) <| w_skip <| w_seq <| w_region rfl <| w_d rfl (d_assign (v := .slice none 0 0) rfl) <| w_done <| w_seq <| w_seq <| w_region rfl <| w_d rfl (d_assign (v := .int .i64 0) rfl) <| w_done <| w_block ?_
  refine w_loop <| w_none <| w_sl 1 (.pointer (some ⟨b1, 0, none⟩)) rfl <| w_sl 2 (.slice none 0 0) rfl <| w_sl 3 (.slice none 0 0) rfl <| w_sl 4 (.int .i64 0) rfl <| hh.l0 hle he (ro_nil _ _) (sl_nil _ _ _)
/-! ### radome/radomelaw25.sameRows -/
noncomputable def radomelaw25_sameRows.C : Code := (Tryd.f104.body).getD .skip
def radomelaw25_sameRows.out (r : Bool) (H : Hp) (v : Value) : Prop := v = .bool r
abbrev radomelaw25_sameRows.R (H0 : Hp) (L : Items) (r : Bool) : Value → Hp → Items → Prop := fun v H' L' => (∃ p, L' = p ++ L) ∧ H0.le H' ∧ radomelaw25_sameRows.out r H' v
structure radomelaw25_sameRows.Hs where
 l0 : (List (List Int)) → (List (List Int)) → Bool → Int → Option Bool
noncomputable def radomelaw25_sameRows.b0 (k : Nat) (h : radomelaw25_sameRows.Hs)  (a : List (List Int)) (b : List (List Int)) (t4 : Bool) (i : Int) : Option Bool := if i < (a.length : Int) then (if (0 : Int) ≤ i ∧ i < (a.length : Int) then (if (0 : Int) ≤ i ∧ i < (b.length : Int) then ((radomelaw25_nums.f k (rd a i) (rd b i)).bind fun y15 => if (!y15) = true then (some (false)) else (h.l0 a b t4 (w64 (i + 1)))) else none) else none) else (some (true))
noncomputable def radomelaw25_sameRows.hs : Nat → radomelaw25_sameRows.Hs
 | 0 => ⟨fun _ _ _ _ => none⟩
 | k + 1 => ⟨fun x0 x1 x2 x3 => radomelaw25_sameRows.b0 k (radomelaw25_sameRows.hs k) x0 x1 x2 x3⟩
noncomputable def radomelaw25_sameRows.f (k : Nat) (a : List (List Int)) (b : List (List Int)) : Option Bool := (fun h : radomelaw25_sameRows.Hs => if (a.length : Int) = (b.length : Int) then (h.l0 a b false 0) else (some (false))) (radomelaw25_sameRows.hs k)
structure radomelaw25_sameRows.LE (h h' : radomelaw25_sameRows.Hs) : Prop where
 l0 : ∀ y0 y1 y2 y3, LeO (h.l0 y0 y1 y2 y3) (h'.l0 y0 y1 y2 y3)
theorem radomelaw25_sameRows.b0_mono {k : Nat} {h h' : radomelaw25_sameRows.Hs} (hl : radomelaw25_sameRows.LE h h') : ∀ y0 y1 y2 y3, LeO (radomelaw25_sameRows.b0 k h y0 y1 y2 y3) (radomelaw25_sameRows.b0 (k + 1) h' y0 y1 y2 y3) := fun _ _ _ _ => (LeO.ite (LeO.ite (LeO.ite (LeO.bind (radomelaw25_nums.mono k _ _) fun _ => LeO.ite (LeO.refl _) (hl.l0 _ _ _ _)) (LeO.refl _)) (LeO.refl _)) (LeO.refl _))
theorem radomelaw25_sameRows.hs_mono : ∀ k, radomelaw25_sameRows.LE (radomelaw25_sameRows.hs k) (radomelaw25_sameRows.hs (k + 1))
 | 0 => ⟨fun _ _ _ _ => LeO.none _⟩
 | k + 1 => ⟨radomelaw25_sameRows.b0_mono (k := k) (radomelaw25_sameRows.hs_mono k)⟩
theorem radomelaw25_sameRows.mono : ∀ k y0 y1, LeO (radomelaw25_sameRows.f k y0 y1) (radomelaw25_sameRows.f (k + 1) y0 y1) := fun k _ _ => have hl := radomelaw25_sameRows.hs_mono k; by unfold radomelaw25_sameRows.f; exact (LeO.ite (hl.l0 _ _ _ _) (LeO.refl _))
noncomputable def radomelaw25_sameRows.Kl0 : List Item := .code (lopB (blkB (seqR (seqL (seqR (seqR radomelaw25_sameRows.C)))))) :: .inLoop (lopB (blkB (seqR (seqL (seqR (seqR radomelaw25_sameRows.C)))))) :: .inBlock 0 :: .code (seqR (seqR (seqR radomelaw25_sameRows.C))) :: []
structure radomelaw25_sameRows.OK (h : radomelaw25_sameRows.Hs) : Prop where
 l0 : ∀ {H0 H : Hp} {L : Items} {r : Bool} {jk_ : Nat → Value} {a : List (List Int)} {b : List (List Int)} {t4 : Bool} {i : Int} {v_a : Value} {v_b : Value} (_ : H0.le H) (_he : h.l0 a b t4 i = some r) (_h_a : Src (Kd.slice (Kd.int .i64)) H L v_a a) (_h_b : Src (Kd.slice (Kd.int .i64)) H L v_b b), Wp Tryd.prog 104 27 radomelaw25_sameRows.Kl0 (upd (upd (upd (upd jk_ 0 (v_a)) 1 (v_b)) 4 (.bool t4)) 5 (.int .i64 i)) H (L) (radomelaw25_sameRows.R H0 L r)
theorem radomelaw25_sameRows.b0_ok {k : Nat} {h : radomelaw25_sameRows.Hs} (hh : radomelaw25_sameRows.OK h) {H0 H : Hp} {L : Items} {r : Bool} {jk_ : Nat → Value} {a : List (List Int)} {b : List (List Int)} {t4 : Bool} {i : Int} {v_a : Value} {v_b : Value} (hle : H0.le H) (he : radomelaw25_sameRows.b0 k h a b t4 i = some r) (h_a : Src (Kd.slice (Kd.int .i64)) H L v_a a) (h_b : Src (Kd.slice (Kd.int .i64)) H L v_b b) : Wp Tryd.prog 104 27 radomelaw25_sameRows.Kl0 (upd (upd (upd (upd jk_ 0 (v_a)) 1 (v_b)) 4 (.bool t4)) 5 (.int .i64 i)) H (L) (radomelaw25_sameRows.R H0 L r) := by
 unfold radomelaw25_sameRows.b0 at he
 unfold radomelaw25_sameRows.Kl0
 refine w_seq <| w_seq <| w_region rfl <| w_d rfl (d_move (v := .int .i64 i) rfl) <| w_d rfl (d_move (v := v_a) rfl) <| w_d rfl (d_len Tryd.underlying137 rfl h_a) <| w_d rfl (d_lss rfl rfl) <| w_done ?_
 rcases its he with ⟨c2, he⟩ | ⟨c2, he⟩
 ·
  refine w_then rfl (decide_eq_true c2) <| w_skip <| w_seq <| w_block <| w_seq ?_
  obtain ⟨c3, he⟩ := rq he
  obtain ⟨_, l4, r5⟩ := el_of (kd := (Kd.slice (Kd.int .i64))) h_a c3
  obtain ⟨v6, rfl, h7⟩ := r5
  obtain ⟨c8, he⟩ := rq he
  obtain ⟨_, l9, r10⟩ := el_of (kd := (Kd.slice (Kd.int .i64))) h_b c8
  obtain ⟨v11, rfl, h12⟩ := r10
  refine w_drawn (p := 8) (tl := [8, 9]) [[], [], [(0, some 17), (1, some 18)], [(2, some 19)], [], [], [(4, some 21), (5, some 22)], [(6, some 23)]] [some 17, some 18, some 19, some 20, some 21, some 22, some 23, some 24] (fctF (.is (v_a) :: .is (.int .i64 i) :: .is (.pointer (some (pel v_a i 1))) :: .is (v6) :: .is (v_b) :: .is (.int .i64 i) :: .is (.pointer (some (pel v_b i 1))) :: .is (v11) :: [])) (fun m_ => L) (fun _ => none) mixed (by kernel_rfl) (by kernel_rfl) rfl (fct_mono (by kernel_rfl)) ⟨(fun H' m_ hH hm_ hu_ => depK_nil <| s_d (m_ 0) rfl (d_move (v := v_a) rfl) (by exact rfl) rfl), (fun H' m_ hH hm_ hu_ => depK_nil <| s_d (m_ 1) rfl (d_move (v := .int .i64 i) rfl) (by exact rfl) rfl), (by rintro H' m_ hH hm_ hu_ _ rfl _ rfl; exact depK_nil <| s_d (m_ 2) rfl (d_index (sz := 1) Tryd.underlying137 sz43 rfl (h_a.mono hH) rfl c3) (by exact rfl) rfl), (by rintro H' m_ hH hm_ hu_ _ rfl; exact depK_nil <| s_d (m_ 3) rfl (d_load (v := v6) (cs := [v6]) ty43 rfl rfl (by decide) (l4.mono hH) rfl) (by exact rfl) rfl), (fun H' m_ hH hm_ hu_ => depK_nil <| s_d (m_ 4) rfl (d_move (v := v_b) rfl) (by exact rfl) rfl), (fun H' m_ hH hm_ hu_ => depK_nil <| s_d (m_ 5) rfl (d_move (v := .int .i64 i) rfl) (by exact rfl) rfl), (by rintro H' m_ hH hm_ hu_ _ rfl _ rfl; exact depK_nil <| s_d (m_ 6) rfl (d_index (sz := 1) Tryd.underlying137 sz43 rfl (h_b.mono hH) rfl c8) (by exact rfl) rfl), (by rintro H' m_ hH hm_ hu_ _ rfl; exact depK_nil <| s_d (m_ 7) rfl (d_load (v := v11) (cs := [v11]) ty43 rfl rfl (by decide) (l9.mono hH) rfl) (by exact rfl) rfl), trivial⟩ ?_
  intro H13 e14
  rintro _ _ rfl _ _ rfl _ _ rfl _ _ rfl _ _ rfl _ _ rfl _ _ rfl _ _ rfl
  obtain ⟨y15, hy16, he⟩ := Option.bind_eq_some_iff.1 he
  refine w_d rfl (call_d (o_call co86 (vs := [v6, v11]) rfl (radomelaw25_nums.calls k hy16 ((h7.mono e14).src) ((h12.mono e14).src)))) <| w_d rfl (d_not (b := y15) rfl) <| w_done ?_
  rcases its he with ⟨c19, he⟩ | ⟨c19, he⟩
  ·
   refine w_then rfl c19 <| w_seq <| w_region rfl <| w_d rfl (d_assign (v := .bool false) rfl) <| w_done ?_
   obtain rfl := Option.some.inj he
   refine w_return fn_104 rs_104 (.tmp (v := .bool false) rfl .nil) <| ⟨⟨[], rfl⟩, hle.trans e14, rfl⟩
  ·
   refine w_else rfl (Bool.eq_false_iff.2 c19) <| w_skip <| w_inBlock <| w_region rfl <| w_d rfl (d_move (v := .int .i64 i) rfl) <| w_d rfl (d_add (c := w64 (i + 1)) rfl rfl rfl) <| w_d rfl (d_assign (v := .int .i64 (w64 (i + 1))) rfl) <| w_done <| w_inLoop <| w_sl 0 (v_a) rfl <| w_sl 1 (v_b) rfl <| w_sl 4 (.bool t4) rfl ?_
   refine w_sl 5 (.int .i64 (w64 (i + 1))) rfl <| hh.l0 (hle.trans e14) he (h_a.mono e14) (h_b.mono e14)
 ·
  refine w_else rfl (decide_eq_false c2) <| w_exit rfl <| w_seq <| w_region rfl <| w_d rfl (d_assign (v := .bool true) rfl) <| w_done ?_
  obtain rfl := Option.some.inj he
  refine w_return fn_104 rs_104 (.tmp (v := .bool true) rfl .nil) <| ⟨⟨[], rfl⟩, hle, rfl⟩
theorem radomelaw25_sameRows.ok : ∀ k, radomelaw25_sameRows.OK (radomelaw25_sameRows.hs k)
 | 0 => ⟨(by intros; exact nomatch (show none = some _ from by assumption))⟩
 | k + 1 => ⟨radomelaw25_sameRows.b0_ok (k := k) (radomelaw25_sameRows.ok k)⟩
theorem radomelaw25_sameRows.calls (k : Nat) {H : Hp} {L : Items} {a : List (List Int)} {b : List (List Int)} {v0_a : Value} {v1_b : Value} {r : Bool} (he : radomelaw25_sameRows.f k a b = some r) (h0_a : Src (Kd.slice (Kd.int .i64)) H L v0_a a) (h1_b : Src (Kd.slice (Kd.int .i64)) H L v1_b b) : Ct Tryd.prog 104 ⟨[v0_a, v1_b]⟩ H L (fun v H' L' => L = L' ∧ H = H' ∧ v = .bool r) := by
 refine ct_outs (O := radomelaw25_sameRows.out r) (fun _ _ h => h) ?_
 have hle : H.le H := .refl _
 have hh := radomelaw25_sameRows.ok k
 unfold radomelaw25_sameRows.f at he
 refine ct_enter (args := [_, _]) fn_104 rfl nt_104 rfl <| w_seq <| w_region rfl <| w_d rfl (d_assign (v := .bool false) rfl) <| w_done <| w_seq <| w_seq <| w_region rfl <| w_d rfl (d_move (v := v0_a) rfl) <| w_d rfl (d_len Tryd.underlying137 rfl h0_a) <| w_d rfl (d_move (v := v1_b) rfl) <| w_d rfl (d_len Tryd.underlying137 rfl h1_b) ?_
 refine w_d rfl (d_neq rfl rfl) <| w_done ?_
 rcases its he with ⟨c1, he⟩ | ⟨c1, he⟩
 ·
  refine w_else rfl (nd_t c1) <| w_skip <| w_seq <| w_seq <| w_region rfl <| w_d rfl (d_assign (v := .int .i64 0) rfl) <| w_done <| w_block <| w_loop <| w_sl 0 (v0_a) rfl <| w_sl 1 (v1_b) rfl <| w_sl 4 (.bool false) rfl ?_
  refine w_sl 5 (.int .i64 0) rfl <| hh.l0 hle he h0_a h1_b
 ·
  refine w_then rfl (nd_f c1) <| w_seq <| w_region rfl <| w_d rfl (d_assign (v := .bool false) rfl) <| w_done ?_
  obtain rfl := Option.some.inj he
  refine w_return fn_104 rs_104 (.tmp (v := .bool false) rfl .nil) <| ⟨⟨[], rfl⟩, hle, rfl⟩
/-! ### radome/radomelaw25.isState -/
noncomputable def radomelaw25_isState.C : Code := (Tryd.f98.body).getD .skip
def radomelaw25_isState.out (r : Bool) (H : Hp) (v : Value) : Prop := v = .bool r
abbrev radomelaw25_isState.R (H0 : Hp) (L : Items) (r : Bool) : Value → Hp → Items → Prop := fun v H' L' => (∃ p, L' = p ++ L) ∧ H0.le H' ∧ radomelaw25_isState.out r H' v
noncomputable def radomelaw25_isState.f (k : Nat) (a : predict_State) (b : radomeref12_State) : Option Bool := if (0 : Int) ≤ 0 ∧ (0 : Int) ≤ 6 ∧ 6 ≤ (6 : Int) then ((radomelaw25_nums.f k (cut (T172.toL a.f_X) 0 6) b.f_X).bind fun y4 => (gd y4 (radomelaw25_rowsOf.f k a.f_P) ([])).bind fun y11 => (gd y4 (radomelaw25_sameRows.f k y11 b.f_P) (false)).bind fun y22 => some (y4 && y22)) else none
theorem radomelaw25_isState.mono : ∀ k y0 y1, LeO (radomelaw25_isState.f k y0 y1) (radomelaw25_isState.f (k + 1) y0 y1) := fun k _ _ => by unfold radomelaw25_isState.f; exact (LeO.ite (LeO.bind (radomelaw25_nums.mono k _ _) fun _ => LeO.bind (LeO.gd (radomelaw25_rowsOf.mono k _)) fun _ => LeO.bind (LeO.gd (radomelaw25_sameRows.mono k _ _)) fun _ => LeO.refl _) (LeO.refl _))
theorem radomelaw25_isState.calls (k : Nat) {H : Hp} {L : Items} {a : predict_State} {b : radomeref12_State} {v0_b : Value} {v1_b : Value} {r : Bool} (he : radomelaw25_isState.f k a b = some r) (h0_b : Ro (Kd.int .i64) H v0_b b.f_X) (h1_b : Ro (Kd.slice (Kd.int .i64)) H v1_b b.f_P) : Ct Tryd.prog 98 ⟨[.agg ⟨(.int .i64 a.f_X.e0 :: .int .i64 a.f_X.e1 :: .int .i64 a.f_X.e2 :: .int .i64 a.f_X.e3 :: .int .i64 a.f_X.e4 :: .int .i64 a.f_X.e5 :: .int .i64 a.f_P.f_Rows :: .int .i64 a.f_P.f_Cols :: .int .i64 a.f_P.f_A.e0 :: .int .i64 a.f_P.f_A.e1 :: .int .i64 a.f_P.f_A.e2 :: .int .i64 a.f_P.f_A.e3 :: .int .i64 a.f_P.f_A.e4 :: .int .i64 a.f_P.f_A.e5 :: .int .i64 a.f_P.f_A.e6 :: .int .i64 a.f_P.f_A.e7 :: .int .i64 a.f_P.f_A.e8 :: .int .i64 a.f_P.f_A.e9 :: .int .i64 a.f_P.f_A.e10 :: .int .i64 a.f_P.f_A.e11 :: .int .i64 a.f_P.f_A.e12 :: .int .i64 a.f_P.f_A.e13 :: .int .i64 a.f_P.f_A.e14 :: .int .i64 a.f_P.f_A.e15 :: .int .i64 a.f_P.f_A.e16 :: .int .i64 a.f_P.f_A.e17 :: .int .i64 a.f_P.f_A.e18 :: .int .i64 a.f_P.f_A.e19 :: .int .i64 a.f_P.f_A.e20 :: .int .i64 a.f_P.f_A.e21 :: .int .i64 a.f_P.f_A.e22 :: .int .i64 a.f_P.f_A.e23 :: .int .i64 a.f_P.f_A.e24 :: .int .i64 a.f_P.f_A.e25 :: .int .i64 a.f_P.f_A.e26 :: .int .i64 a.f_P.f_A.e27 :: .int .i64 a.f_P.f_A.e28 :: .int .i64 a.f_P.f_A.e29 :: .int .i64 a.f_P.f_A.e30 :: .int .i64 a.f_P.f_A.e31 :: .int .i64 a.f_P.f_A.e32 :: .int .i64 a.f_P.f_A.e33 :: .int .i64 a.f_P.f_A.e34 :: .int .i64 a.f_P.f_A.e35 :: [])⟩, .agg ⟨[v0_b, v1_b]⟩]⟩ H L (fun v H' L' => L = L' ∧ H = H' ∧ v = .bool r) := by
 refine ct_outs (O := radomelaw25_isState.out r) (fun _ _ h => h) ?_
 have hle : H.le H := .refl _
 unfold radomelaw25_isState.f at he
 refine ct_enter (args := [_, _]) fn_98 rfl nt_98 rfl <| w_seq <| w_region rfl <| w_a rfl (o_box (v := .agg ⟨(.int .i64 a.f_X.e0 :: .int .i64 a.f_X.e1 :: .int .i64 a.f_X.e2 :: .int .i64 a.f_X.e3 :: .int .i64 a.f_X.e4 :: .int .i64 a.f_X.e5 :: .int .i64 a.f_P.f_Rows :: .int .i64 a.f_P.f_Cols :: .int .i64 a.f_P.f_A.e0 :: .int .i64 a.f_P.f_A.e1 :: .int .i64 a.f_P.f_A.e2 :: .int .i64 a.f_P.f_A.e3 :: .int .i64 a.f_P.f_A.e4 :: .int .i64 a.f_P.f_A.e5 :: .int .i64 a.f_P.f_A.e6 :: .int .i64 a.f_P.f_A.e7 :: .int .i64 a.f_P.f_A.e8 :: .int .i64 a.f_P.f_A.e9 :: .int .i64 a.f_P.f_A.e10 :: .int .i64 a.f_P.f_A.e11 :: .int .i64 a.f_P.f_A.e12 :: .int .i64 a.f_P.f_A.e13 :: .int .i64 a.f_P.f_A.e14 :: .int .i64 a.f_P.f_A.e15 :: .int .i64 a.f_P.f_A.e16 :: .int .i64 a.f_P.f_A.e17 :: .int .i64 a.f_P.f_A.e18 :: .int .i64 a.f_P.f_A.e19 :: .int .i64 a.f_P.f_A.e20 :: .int .i64 a.f_P.f_A.e21 :: .int .i64 a.f_P.f_A.e22 :: .int .i64 a.f_P.f_A.e23 :: .int .i64 a.f_P.f_A.e24 :: .int .i64 a.f_P.f_A.e25 :: .int .i64 a.f_P.f_A.e26 :: .int .i64 a.f_P.f_A.e27 :: .int .i64 a.f_P.f_A.e28 :: .int .i64 a.f_P.f_A.e29 :: .int .i64 a.f_P.f_A.e30 :: .int .i64 a.f_P.f_A.e31 :: .int .i64 a.f_P.f_A.e32 :: .int .i64 a.f_P.f_A.e33 :: .int .i64 a.f_P.f_A.e34 :: .int .i64 a.f_P.f_A.e35 :: [])⟩) rfl rfl) ?_
 rintro _ _ _ ⟨b1, rfl, rfl, rfl⟩
 refine w_a rfl (o_box (v := .agg ⟨[v0_b, v1_b]⟩) rfl rfl) ?_
 rintro _ _ _ ⟨b2, rfl, rfl, rfl⟩
 refine w_d rfl (d_assign (v := .bool false) rfl) <| w_done <| w_seq ?_
 obtain ⟨c3, he⟩ := rq he
 obtain ⟨y4, hy5, he⟩ := Option.bind_eq_some_iff.1 he
 obtain ⟨y11, hy12, he⟩ := Option.bind_eq_some_iff.1 he
 refine w_drawn (p := 11) (tl := [11, 12, 13]) [[], [(0, some 5)], [], [(2, some 7)], [(1, some 6), (3, some 8)], [(4, some 9)], [(5, some 10)], [(5, some 10), (6, some 11)], [(5, some 10), (7, some 12)], [(5, some 10)], [(5, some 10), (9, some 14)]] [some 5, some 6, some 7, some 8, some 9, some 10, some 11, some 12, some 13, some 14, some 15] (fctF (.is (.pointer (some ⟨b1, 0, none⟩)) :: .is (cutv 1 (asl b1 0 6) 0 6) :: .is (.pointer (some ⟨b2, 0, none⟩)) :: .is (v0_b) :: .is (.bool y4) :: .is (.bool y4) :: .is (cond y4 (.pointer (some ⟨b1, 6, none⟩)) undef) :: .is (cond y4 (.agg ⟨(.int .i64 a.f_P.f_Rows :: .int .i64 a.f_P.f_Cols :: .int .i64 a.f_P.f_A.e0 :: .int .i64 a.f_P.f_A.e1 :: .int .i64 a.f_P.f_A.e2 :: .int .i64 a.f_P.f_A.e3 :: .int .i64 a.f_P.f_A.e4 :: .int .i64 a.f_P.f_A.e5 :: .int .i64 a.f_P.f_A.e6 :: .int .i64 a.f_P.f_A.e7 :: .int .i64 a.f_P.f_A.e8 :: .int .i64 a.f_P.f_A.e9 :: .int .i64 a.f_P.f_A.e10 :: .int .i64 a.f_P.f_A.e11 :: .int .i64 a.f_P.f_A.e12 :: .int .i64 a.f_P.f_A.e13 :: .int .i64 a.f_P.f_A.e14 :: .int .i64 a.f_P.f_A.e15 :: .int .i64 a.f_P.f_A.e16 :: .int .i64 a.f_P.f_A.e17 :: .int .i64 a.f_P.f_A.e18 :: .int .i64 a.f_P.f_A.e19 :: .int .i64 a.f_P.f_A.e20 :: .int .i64 a.f_P.f_A.e21 :: .int .i64 a.f_P.f_A.e22 :: .int .i64 a.f_P.f_A.e23 :: .int .i64 a.f_P.f_A.e24 :: .int .i64 a.f_P.f_A.e25 :: .int .i64 a.f_P.f_A.e26 :: .int .i64 a.f_P.f_A.e27 :: .int .i64 a.f_P.f_A.e28 :: .int .i64 a.f_P.f_A.e29 :: .int .i64 a.f_P.f_A.e30 :: .int .i64 a.f_P.f_A.e31 :: .int .i64 a.f_P.f_A.e32 :: .int .i64 a.f_P.f_A.e33 :: .int .i64 a.f_P.f_A.e34 :: .int .i64 a.f_P.f_A.e35 :: [])⟩) undef) :: .of (fun H v => ∃ v15, v = cond y4 v15 undef ∧ (y4 = true → Ro (Kd.slice (Kd.int .i64)) H v15 y11)) (by rintro _ _ _ hle ⟨v15, rfl, h16⟩; exact ⟨v15, rfl, fun g_ => (h16 g_).mono hle⟩) :: .is (cond y4 (.pointer (some ⟨b2, 1, none⟩)) undef) :: .is (cond y4 v1_b undef) :: [])) (fun m_ => some (b2, .cells ⟨[v0_b, v1_b]⟩ 139 (0, 0)) :: some (b1, .cells ⟨(.int .i64 a.f_X.e0 :: .int .i64 a.f_X.e1 :: .int .i64 a.f_X.e2 :: .int .i64 a.f_X.e3 :: .int .i64 a.f_X.e4 :: .int .i64 a.f_X.e5 :: .int .i64 a.f_P.f_Rows :: .int .i64 a.f_P.f_Cols :: .int .i64 a.f_P.f_A.e0 :: .int .i64 a.f_P.f_A.e1 :: .int .i64 a.f_P.f_A.e2 :: .int .i64 a.f_P.f_A.e3 :: .int .i64 a.f_P.f_A.e4 :: .int .i64 a.f_P.f_A.e5 :: .int .i64 a.f_P.f_A.e6 :: .int .i64 a.f_P.f_A.e7 :: .int .i64 a.f_P.f_A.e8 :: .int .i64 a.f_P.f_A.e9 :: .int .i64 a.f_P.f_A.e10 :: .int .i64 a.f_P.f_A.e11 :: .int .i64 a.f_P.f_A.e12 :: .int .i64 a.f_P.f_A.e13 :: .int .i64 a.f_P.f_A.e14 :: .int .i64 a.f_P.f_A.e15 :: .int .i64 a.f_P.f_A.e16 :: .int .i64 a.f_P.f_A.e17 :: .int .i64 a.f_P.f_A.e18 :: .int .i64 a.f_P.f_A.e19 :: .int .i64 a.f_P.f_A.e20 :: .int .i64 a.f_P.f_A.e21 :: .int .i64 a.f_P.f_A.e22 :: .int .i64 a.f_P.f_A.e23 :: .int .i64 a.f_P.f_A.e24 :: .int .i64 a.f_P.f_A.e25 :: .int .i64 a.f_P.f_A.e26 :: .int .i64 a.f_P.f_A.e27 :: .int .i64 a.f_P.f_A.e28 :: .int .i64 a.f_P.f_A.e29 :: .int .i64 a.f_P.f_A.e30 :: .int .i64 a.f_P.f_A.e31 :: .int .i64 a.f_P.f_A.e32 :: .int .i64 a.f_P.f_A.e33 :: .int .i64 a.f_P.f_A.e34 :: .int .i64 a.f_P.f_A.e35 :: [])⟩ 177 (0, 0)) :: L) (fun _ => none) mixed (by kernel_rfl) (by kernel_rfl) rfl (fct_mono (by kernel_rfl)) ⟨(fun H' m_ hH hm_ hu_ => depK_nil <| s_d (m_ 0) rfl (d_fld (o' := 0) Tryd.underlying177 rfl sz172 rfl rfl rfl) (by exact rfl) rfl), (by rintro H' m_ hH hm_ hu_ _ rfl; exact depK_nil <| s_d (m_ 1) rfl (d_acut (e := 2) (sz := 1) Tryd.underlying172 sz2 rfl (.inl ⟨rfl, rfl⟩) (.inl ⟨rfl, rfl⟩) c3) (by exact rfl) rfl), (fun H' m_ hH hm_ hu_ => depK_nil <| s_d (m_ 2) rfl (d_fld (o' := 0) Tryd.underlying139 rfl sz43 rfl rfl rfl) (by exact rfl) rfl), (by rintro H' m_ hH hm_ hu_ _ rfl; exact depK_nil <| s_d (m_ 3) rfl (d_loado (v := v0_b) ty43 rfl .here rfl rfl rfl rfl) (by exact rfl) rfl), (by rintro H' m_ hH hm_ hu_ _ rfl _ rfl; exact depK_nil <| s_d (m_ 4) rfl (call_d (o_call co86 (vs := [cutv 1 (asl b1 0 6) 0 6, v0_b]) rfl (radomelaw25_nums.calls k hy5 (src_cutv (src_arr (xs := T172.toL a.f_X) (lies_own (.there .here)) rfl rfl) c3) ((h0_b.mono hH).src)))) (by exact rfl) rfl), (by rintro H' m_ hH hm_ hu_ _ rfl; exact depK_nil <| s_d (m_ 5) rfl (d_move (v := .bool y4) rfl) (by exact rfl) rfl), (by rintro H' m_ hH hm_ hu_ _ rfl; exact depK_nil <| s_g (g := y4) (m_ 6) rfl rfl rfl wn_t (fun g8 => d_fld (o' := 6) Tryd.underlying177 rfl sz175 rfl rfl rfl) rfl (by exact fun g_ => cvt g_) (by exact fun g_ => cnt g_)), (by rintro H' m_ hH hm_ hu_ _ rfl _ rfl; exact depK_nil <| s_g (g := y4) (m_ 7) rfl rfl rfl wn_t (fun g9 => d_loado (v := .agg ⟨(.int .i64 a.f_P.f_Rows :: .int .i64 a.f_P.f_Cols :: .int .i64 a.f_P.f_A.e0 :: .int .i64 a.f_P.f_A.e1 :: .int .i64 a.f_P.f_A.e2 :: .int .i64 a.f_P.f_A.e3 :: .int .i64 a.f_P.f_A.e4 :: .int .i64 a.f_P.f_A.e5 :: .int .i64 a.f_P.f_A.e6 :: .int .i64 a.f_P.f_A.e7 :: .int .i64 a.f_P.f_A.e8 :: .int .i64 a.f_P.f_A.e9 :: .int .i64 a.f_P.f_A.e10 :: .int .i64 a.f_P.f_A.e11 :: .int .i64 a.f_P.f_A.e12 :: .int .i64 a.f_P.f_A.e13 :: .int .i64 a.f_P.f_A.e14 :: .int .i64 a.f_P.f_A.e15 :: .int .i64 a.f_P.f_A.e16 :: .int .i64 a.f_P.f_A.e17 :: .int .i64 a.f_P.f_A.e18 :: .int .i64 a.f_P.f_A.e19 :: .int .i64 a.f_P.f_A.e20 :: .int .i64 a.f_P.f_A.e21 :: .int .i64 a.f_P.f_A.e22 :: .int .i64 a.f_P.f_A.e23 :: .int .i64 a.f_P.f_A.e24 :: .int .i64 a.f_P.f_A.e25 :: .int .i64 a.f_P.f_A.e26 :: .int .i64 a.f_P.f_A.e27 :: .int .i64 a.f_P.f_A.e28 :: .int .i64 a.f_P.f_A.e29 :: .int .i64 a.f_P.f_A.e30 :: .int .i64 a.f_P.f_A.e31 :: .int .i64 a.f_P.f_A.e32 :: .int .i64 a.f_P.f_A.e33 :: .int .i64 a.f_P.f_A.e34 :: .int .i64 a.f_P.f_A.e35 :: [])⟩) ty175 (cvt g9) (.there .here) rfl rfl rfl rfl) rfl (by exact fun g_ => cvt g_) (by exact fun g_ => cnt g_)), (by rintro H' m_ hH hm_ hu_ _ rfl _ rfl; exact depK_nil <| s_gr (g := y4) (fun v15 => v15) (fun H v15 => Ro (Kd.slice (Kd.int .i64)) H v15 y11) (m_ 8) rfl rfl rfl wn_t (fun g10 => opa_ex (o_call co105 (vs := [.agg ⟨(.int .i64 a.f_P.f_Rows :: .int .i64 a.f_P.f_Cols :: .int .i64 a.f_P.f_A.e0 :: .int .i64 a.f_P.f_A.e1 :: .int .i64 a.f_P.f_A.e2 :: .int .i64 a.f_P.f_A.e3 :: .int .i64 a.f_P.f_A.e4 :: .int .i64 a.f_P.f_A.e5 :: .int .i64 a.f_P.f_A.e6 :: .int .i64 a.f_P.f_A.e7 :: .int .i64 a.f_P.f_A.e8 :: .int .i64 a.f_P.f_A.e9 :: .int .i64 a.f_P.f_A.e10 :: .int .i64 a.f_P.f_A.e11 :: .int .i64 a.f_P.f_A.e12 :: .int .i64 a.f_P.f_A.e13 :: .int .i64 a.f_P.f_A.e14 :: .int .i64 a.f_P.f_A.e15 :: .int .i64 a.f_P.f_A.e16 :: .int .i64 a.f_P.f_A.e17 :: .int .i64 a.f_P.f_A.e18 :: .int .i64 a.f_P.f_A.e19 :: .int .i64 a.f_P.f_A.e20 :: .int .i64 a.f_P.f_A.e21 :: .int .i64 a.f_P.f_A.e22 :: .int .i64 a.f_P.f_A.e23 :: .int .i64 a.f_P.f_A.e24 :: .int .i64 a.f_P.f_A.e25 :: .int .i64 a.f_P.f_A.e26 :: .int .i64 a.f_P.f_A.e27 :: .int .i64 a.f_P.f_A.e28 :: .int .i64 a.f_P.f_A.e29 :: .int .i64 a.f_P.f_A.e30 :: .int .i64 a.f_P.f_A.e31 :: .int .i64 a.f_P.f_A.e32 :: .int .i64 a.f_P.f_A.e33 :: .int .i64 a.f_P.f_A.e34 :: .int .i64 a.f_P.f_A.e35 :: [])⟩]) (acons (cvt g10) (anil)) (radomelaw25_rowsOf.calls k (m := a.f_P) (gd_t g10 hy12)))) rfl (by exact fun c_ H_ h_ => ⟨c_, rfl, h_⟩)), (by rintro H' m_ hH hm_ hu_ _ rfl; exact depK_nil <| s_g (g := y4) (m_ 9) rfl rfl rfl wn_t (fun g17 => d_fld (o' := 1) Tryd.underlying139 rfl sz137 rfl rfl rfl) rfl (by exact fun g_ => cvt g_) (by exact fun g_ => cnt g_)), (by rintro H' m_ hH hm_ hu_ _ rfl _ rfl; exact depK_nil <| s_g (g := y4) (m_ 10) rfl rfl rfl wn_t (fun g18 => d_loado (v := v1_b) ty137 (cvt g18) .here rfl rfl rfl rfl) rfl (by exact fun g_ => cvt g_) (by exact fun g_ => cnt g_)), trivial⟩ ?_
 intro H19 e20
 rintro _ _ rfl _ _ rfl _ _ rfl _ _ rfl _ _ rfl _ _ rfl _ _ rfl _ _ rfl _ _ ⟨v15, rfl, h16⟩ _ _ rfl _ _ rfl
 obtain ⟨y22, hy23, he⟩ := Option.bind_eq_some_iff.1 he
 refine w_g (g := y4) rfl rfl rfl wn_t (fun g21 => call_d (o_call co104 (vs := [v15, v1_b]) (acons (cvt g21) (acons (cvt g21) (anil))) (radomelaw25_sameRows.calls k (gd_t g21 hy23) ((h16 g21).src) ((h1_b.mono e20).src)))) <| w_d rfl (d_and' (b := y4) (p := y22) rfl rfl rfl) <| w_d rfl (d_assign (v := .bool (y4 && y22)) rfl) <| w_done ?_
 obtain rfl := Option.some.inj he
 refine w_return fn_98 rs_98 (.tmp (v := .bool (y4 && y22)) rfl .nil) <| ⟨⟨[_, _], rfl⟩, hle.trans e20, rfl⟩
/-! ### radome/radomelaw25.areStates -/
noncomputable def radomelaw25_areStates.C : Code := (Tryd.f85.body).getD .skip
def radomelaw25_areStates.out (r : Bool) (H : Hp) (v : Value) : Prop := v = .bool r
abbrev radomelaw25_areStates.R (H0 : Hp) (L : Items) (r : Bool) : Value → Hp → Items → Prop := fun v H' L' => (∃ p, L' = p ++ L) ∧ H0.le H' ∧ radomelaw25_areStates.out r H' v
structure radomelaw25_areStates.Hs where
 l0 : (List predict_State) → (List radomeref12_State) → Bool → Int → Option Bool
noncomputable def radomelaw25_areStates.b0 (k : Nat) (h : radomelaw25_areStates.Hs)  (a : List predict_State) (b : List radomeref12_State) (t4 : Bool) (i : Int) : Option Bool := if i < (a.length : Int) then (if (0 : Int) ≤ i ∧ i < (a.length : Int) then (if (0 : Int) ≤ i ∧ i < (b.length : Int) then ((radomelaw25_isState.f k (rd a i) (rd b i)).bind fun y15 => if (!y15) = true then (some (false)) else (h.l0 a b t4 (w64 (i + 1)))) else none) else none) else (some (true))
noncomputable def radomelaw25_areStates.hs : Nat → radomelaw25_areStates.Hs
 | 0 => ⟨fun _ _ _ _ => none⟩
 | k + 1 => ⟨fun x0 x1 x2 x3 => radomelaw25_areStates.b0 k (radomelaw25_areStates.hs k) x0 x1 x2 x3⟩
noncomputable def radomelaw25_areStates.f (k : Nat) (a : List predict_State) (b : List radomeref12_State) : Option Bool := (fun h : radomelaw25_areStates.Hs => if (a.length : Int) = (b.length : Int) then (h.l0 a b false 0) else (some (false))) (radomelaw25_areStates.hs k)
structure radomelaw25_areStates.LE (h h' : radomelaw25_areStates.Hs) : Prop where
 l0 : ∀ y0 y1 y2 y3, LeO (h.l0 y0 y1 y2 y3) (h'.l0 y0 y1 y2 y3)
theorem radomelaw25_areStates.b0_mono {k : Nat} {h h' : radomelaw25_areStates.Hs} (hl : radomelaw25_areStates.LE h h') : ∀ y0 y1 y2 y3, LeO (radomelaw25_areStates.b0 k h y0 y1 y2 y3) (radomelaw25_areStates.b0 (k + 1) h' y0 y1 y2 y3) := fun _ _ _ _ => (LeO.ite (LeO.ite (LeO.ite (LeO.bind (radomelaw25_isState.mono k _ _) fun _ => LeO.ite (LeO.refl _) (hl.l0 _ _ _ _)) (LeO.refl _)) (LeO.refl _)) (LeO.refl _))
theorem radomelaw25_areStates.hs_mono : ∀ k, radomelaw25_areStates.LE (radomelaw25_areStates.hs k) (radomelaw25_areStates.hs (k + 1))
 | 0 => ⟨fun _ _ _ _ => LeO.none _⟩
 | k + 1 => ⟨radomelaw25_areStates.b0_mono (k := k) (radomelaw25_areStates.hs_mono k)⟩
theorem radomelaw25_areStates.mono : ∀ k y0 y1, LeO (radomelaw25_areStates.f k y0 y1) (radomelaw25_areStates.f (k + 1) y0 y1) := fun k _ _ => have hl := radomelaw25_areStates.hs_mono k; by unfold radomelaw25_areStates.f; exact (LeO.ite (hl.l0 _ _ _ _) (LeO.refl _))
noncomputable def radomelaw25_areStates.Kl0 : List Item := .code (lopB (blkB (seqR (seqL (seqR (seqR radomelaw25_areStates.C)))))) :: .inLoop (lopB (blkB (seqR (seqL (seqR (seqR radomelaw25_areStates.C)))))) :: .inBlock 0 :: .code (seqR (seqR (seqR radomelaw25_areStates.C))) :: []
structure radomelaw25_areStates.OK (h : radomelaw25_areStates.Hs) : Prop where
 l0 : ∀ {H0 H : Hp} {L : Items} {r : Bool} {jk_ : Nat → Value} {a : List predict_State} {b : List radomeref12_State} {t4 : Bool} {i : Int} {v_a : Value} {v_b : Value} (_ : H0.le H) (_he : h.l0 a b t4 i = some r) (_h_a : Src k_predict_State H L v_a a) (_h_b : Src k_radomeref12_State H L v_b b), Wp Tryd.prog 85 27 radomelaw25_areStates.Kl0 (upd (upd (upd (upd jk_ 0 (v_a)) 1 (v_b)) 4 (.bool t4)) 5 (.int .i64 i)) H (L) (radomelaw25_areStates.R H0 L r)
theorem radomelaw25_areStates.b0_ok {k : Nat} {h : radomelaw25_areStates.Hs} (hh : radomelaw25_areStates.OK h) {H0 H : Hp} {L : Items} {r : Bool} {jk_ : Nat → Value} {a : List predict_State} {b : List radomeref12_State} {t4 : Bool} {i : Int} {v_a : Value} {v_b : Value} (hle : H0.le H) (he : radomelaw25_areStates.b0 k h a b t4 i = some r) (h_a : Src k_predict_State H L v_a a) (h_b : Src k_radomeref12_State H L v_b b) : Wp Tryd.prog 85 27 radomelaw25_areStates.Kl0 (upd (upd (upd (upd jk_ 0 (v_a)) 1 (v_b)) 4 (.bool t4)) 5 (.int .i64 i)) H (L) (radomelaw25_areStates.R H0 L r) := by
 unfold radomelaw25_areStates.b0 at he
 unfold radomelaw25_areStates.Kl0
 refine w_seq <| w_seq <| w_region rfl <| w_d rfl (d_move (v := .int .i64 i) rfl) <| w_d rfl (d_move (v := v_a) rfl) <| w_d rfl (d_len Tryd.underlying61 rfl h_a) <| w_d rfl (d_lss rfl rfl) <| w_done ?_
 rcases its he with ⟨c2, he⟩ | ⟨c2, he⟩
 ·
  refine w_then rfl (decide_eq_true c2) <| w_skip <| w_seq <| w_block <| w_seq ?_
  obtain ⟨c3, he⟩ := rq he
  obtain ⟨_, l4, r5⟩ := el_of (kd := k_predict_State) h_a c3
  obtain ⟨rfl⟩ := k_predict_State_out r5
  obtain ⟨c6, he⟩ := rq he
  obtain ⟨_, l7, r8⟩ := el_of (kd := k_radomeref12_State) h_b c6
  obtain ⟨v9, v11, rfl, h10, h12⟩ := k_radomeref12_State_out r8
  refine w_drawn (p := 8) (tl := [8, 9]) [[], [], [(0, some 17), (1, some 18)], [(2, some 19)], [], [], [(4, some 21), (5, some 22)], [(6, some 23)]] [some 17, some 18, some 19, some 20, some 21, some 22, some 23, some 24] (fctF (.is (v_a) :: .is (.int .i64 i) :: .is (.pointer (some (pel v_a i 44))) :: .is (.agg ⟨(.int .i64 (((rd a i).f_X).e0) :: .int .i64 (((rd a i).f_X).e1) :: .int .i64 (((rd a i).f_X).e2) :: .int .i64 (((rd a i).f_X).e3) :: .int .i64 (((rd a i).f_X).e4) :: .int .i64 (((rd a i).f_X).e5) :: .int .i64 (((rd a i).f_P).f_Rows) :: .int .i64 (((rd a i).f_P).f_Cols) :: .int .i64 ((((rd a i).f_P).f_A).e0) :: .int .i64 ((((rd a i).f_P).f_A).e1) :: .int .i64 ((((rd a i).f_P).f_A).e2) :: .int .i64 ((((rd a i).f_P).f_A).e3) :: .int .i64 ((((rd a i).f_P).f_A).e4) :: .int .i64 ((((rd a i).f_P).f_A).e5) :: .int .i64 ((((rd a i).f_P).f_A).e6) :: .int .i64 ((((rd a i).f_P).f_A).e7) :: .int .i64 ((((rd a i).f_P).f_A).e8) :: .int .i64 ((((rd a i).f_P).f_A).e9) :: .int .i64 ((((rd a i).f_P).f_A).e10) :: .int .i64 ((((rd a i).f_P).f_A).e11) :: .int .i64 ((((rd a i).f_P).f_A).e12) :: .int .i64 ((((rd a i).f_P).f_A).e13) :: .int .i64 ((((rd a i).f_P).f_A).e14) :: .int .i64 ((((rd a i).f_P).f_A).e15) :: .int .i64 ((((rd a i).f_P).f_A).e16) :: .int .i64 ((((rd a i).f_P).f_A).e17) :: .int .i64 ((((rd a i).f_P).f_A).e18) :: .int .i64 ((((rd a i).f_P).f_A).e19) :: .int .i64 ((((rd a i).f_P).f_A).e20) :: .int .i64 ((((rd a i).f_P).f_A).e21) :: .int .i64 ((((rd a i).f_P).f_A).e22) :: .int .i64 ((((rd a i).f_P).f_A).e23) :: .int .i64 ((((rd a i).f_P).f_A).e24) :: .int .i64 ((((rd a i).f_P).f_A).e25) :: .int .i64 ((((rd a i).f_P).f_A).e26) :: .int .i64 ((((rd a i).f_P).f_A).e27) :: .int .i64 ((((rd a i).f_P).f_A).e28) :: .int .i64 ((((rd a i).f_P).f_A).e29) :: .int .i64 ((((rd a i).f_P).f_A).e30) :: .int .i64 ((((rd a i).f_P).f_A).e31) :: .int .i64 ((((rd a i).f_P).f_A).e32) :: .int .i64 ((((rd a i).f_P).f_A).e33) :: .int .i64 ((((rd a i).f_P).f_A).e34) :: .int .i64 ((((rd a i).f_P).f_A).e35) :: [])⟩) :: .is (v_b) :: .is (.int .i64 i) :: .is (.pointer (some (pel v_b i 2))) :: .is (.agg ⟨[v9, v11]⟩) :: [])) (fun m_ => L) (fun _ => none) mixed (by kernel_rfl) (by kernel_rfl) rfl (fct_mono (by kernel_rfl)) ⟨(fun H' m_ hH hm_ hu_ => depK_nil <| s_d (m_ 0) rfl (d_move (v := v_a) rfl) (by exact rfl) rfl), (fun H' m_ hH hm_ hu_ => depK_nil <| s_d (m_ 1) rfl (d_move (v := .int .i64 i) rfl) (by exact rfl) rfl), (by rintro H' m_ hH hm_ hu_ _ rfl _ rfl; exact depK_nil <| s_d (m_ 2) rfl (d_index (sz := 44) Tryd.underlying61 sz177 rfl (h_a.mono hH) rfl c3) (by exact rfl) rfl), (by rintro H' m_ hH hm_ hu_ _ rfl; exact depK_nil <| s_d (m_ 3) rfl (d_load (v := .agg ⟨(.int .i64 (((rd a i).f_X).e0) :: .int .i64 (((rd a i).f_X).e1) :: .int .i64 (((rd a i).f_X).e2) :: .int .i64 (((rd a i).f_X).e3) :: .int .i64 (((rd a i).f_X).e4) :: .int .i64 (((rd a i).f_X).e5) :: .int .i64 (((rd a i).f_P).f_Rows) :: .int .i64 (((rd a i).f_P).f_Cols) :: .int .i64 ((((rd a i).f_P).f_A).e0) :: .int .i64 ((((rd a i).f_P).f_A).e1) :: .int .i64 ((((rd a i).f_P).f_A).e2) :: .int .i64 ((((rd a i).f_P).f_A).e3) :: .int .i64 ((((rd a i).f_P).f_A).e4) :: .int .i64 ((((rd a i).f_P).f_A).e5) :: .int .i64 ((((rd a i).f_P).f_A).e6) :: .int .i64 ((((rd a i).f_P).f_A).e7) :: .int .i64 ((((rd a i).f_P).f_A).e8) :: .int .i64 ((((rd a i).f_P).f_A).e9) :: .int .i64 ((((rd a i).f_P).f_A).e10) :: .int .i64 ((((rd a i).f_P).f_A).e11) :: .int .i64 ((((rd a i).f_P).f_A).e12) :: .int .i64 ((((rd a i).f_P).f_A).e13) :: .int .i64 ((((rd a i).f_P).f_A).e14) :: .int .i64 ((((rd a i).f_P).f_A).e15) :: .int .i64 ((((rd a i).f_P).f_A).e16) :: .int .i64 ((((rd a i).f_P).f_A).e17) :: .int .i64 ((((rd a i).f_P).f_A).e18) :: .int .i64 ((((rd a i).f_P).f_A).e19) :: .int .i64 ((((rd a i).f_P).f_A).e20) :: .int .i64 ((((rd a i).f_P).f_A).e21) :: .int .i64 ((((rd a i).f_P).f_A).e22) :: .int .i64 ((((rd a i).f_P).f_A).e23) :: .int .i64 ((((rd a i).f_P).f_A).e24) :: .int .i64 ((((rd a i).f_P).f_A).e25) :: .int .i64 ((((rd a i).f_P).f_A).e26) :: .int .i64 ((((rd a i).f_P).f_A).e27) :: .int .i64 ((((rd a i).f_P).f_A).e28) :: .int .i64 ((((rd a i).f_P).f_A).e29) :: .int .i64 ((((rd a i).f_P).f_A).e30) :: .int .i64 ((((rd a i).f_P).f_A).e31) :: .int .i64 ((((rd a i).f_P).f_A).e32) :: .int .i64 ((((rd a i).f_P).f_A).e33) :: .int .i64 ((((rd a i).f_P).f_A).e34) :: .int .i64 ((((rd a i).f_P).f_A).e35) :: [])⟩) (cs := (.int .i64 (((rd a i).f_X).e0) :: .int .i64 (((rd a i).f_X).e1) :: .int .i64 (((rd a i).f_X).e2) :: .int .i64 (((rd a i).f_X).e3) :: .int .i64 (((rd a i).f_X).e4) :: .int .i64 (((rd a i).f_X).e5) :: .int .i64 (((rd a i).f_P).f_Rows) :: .int .i64 (((rd a i).f_P).f_Cols) :: .int .i64 ((((rd a i).f_P).f_A).e0) :: .int .i64 ((((rd a i).f_P).f_A).e1) :: .int .i64 ((((rd a i).f_P).f_A).e2) :: .int .i64 ((((rd a i).f_P).f_A).e3) :: .int .i64 ((((rd a i).f_P).f_A).e4) :: .int .i64 ((((rd a i).f_P).f_A).e5) :: .int .i64 ((((rd a i).f_P).f_A).e6) :: .int .i64 ((((rd a i).f_P).f_A).e7) :: .int .i64 ((((rd a i).f_P).f_A).e8) :: .int .i64 ((((rd a i).f_P).f_A).e9) :: .int .i64 ((((rd a i).f_P).f_A).e10) :: .int .i64 ((((rd a i).f_P).f_A).e11) :: .int .i64 ((((rd a i).f_P).f_A).e12) :: .int .i64 ((((rd a i).f_P).f_A).e13) :: .int .i64 ((((rd a i).f_P).f_A).e14) :: .int .i64 ((((rd a i).f_P).f_A).e15) :: .int .i64 ((((rd a i).f_P).f_A).e16) :: .int .i64 ((((rd a i).f_P).f_A).e17) :: .int .i64 ((((rd a i).f_P).f_A).e18) :: .int .i64 ((((rd a i).f_P).f_A).e19) :: .int .i64 ((((rd a i).f_P).f_A).e20) :: .int .i64 ((((rd a i).f_P).f_A).e21) :: .int .i64 ((((rd a i).f_P).f_A).e22) :: .int .i64 ((((rd a i).f_P).f_A).e23) :: .int .i64 ((((rd a i).f_P).f_A).e24) :: .int .i64 ((((rd a i).f_P).f_A).e25) :: .int .i64 ((((rd a i).f_P).f_A).e26) :: .int .i64 ((((rd a i).f_P).f_A).e27) :: .int .i64 ((((rd a i).f_P).f_A).e28) :: .int .i64 ((((rd a i).f_P).f_A).e29) :: .int .i64 ((((rd a i).f_P).f_A).e30) :: .int .i64 ((((rd a i).f_P).f_A).e31) :: .int .i64 ((((rd a i).f_P).f_A).e32) :: .int .i64 ((((rd a i).f_P).f_A).e33) :: .int .i64 ((((rd a i).f_P).f_A).e34) :: .int .i64 ((((rd a i).f_P).f_A).e35) :: [])) ty177 rfl rfl (by decide) (l4.mono hH) rfl) (by exact rfl) rfl), (fun H' m_ hH hm_ hu_ => depK_nil <| s_d (m_ 4) rfl (d_move (v := v_b) rfl) (by exact rfl) rfl), (fun H' m_ hH hm_ hu_ => depK_nil <| s_d (m_ 5) rfl (d_move (v := .int .i64 i) rfl) (by exact rfl) rfl), (by rintro H' m_ hH hm_ hu_ _ rfl _ rfl; exact depK_nil <| s_d (m_ 6) rfl (d_index (sz := 2) Tryd.underlying65 sz139 rfl (h_b.mono hH) rfl c6) (by exact rfl) rfl), (by rintro H' m_ hH hm_ hu_ _ rfl; exact depK_nil <| s_d (m_ 7) rfl (d_load (v := .agg ⟨[v9, v11]⟩) (cs := [v9, v11]) ty139 rfl rfl (by decide) (l7.mono hH) rfl) (by exact rfl) rfl), trivial⟩ ?_
  intro H13 e14
  rintro _ _ rfl _ _ rfl _ _ rfl _ _ rfl _ _ rfl _ _ rfl _ _ rfl _ _ rfl
  obtain ⟨y15, hy16, he⟩ := Option.bind_eq_some_iff.1 he
  refine w_d rfl (call_d (o_call co98 (vs := [.agg ⟨(.int .i64 (((rd a i).f_X).e0) :: .int .i64 (((rd a i).f_X).e1) :: .int .i64 (((rd a i).f_X).e2) :: .int .i64 (((rd a i).f_X).e3) :: .int .i64 (((rd a i).f_X).e4) :: .int .i64 (((rd a i).f_X).e5) :: .int .i64 (((rd a i).f_P).f_Rows) :: .int .i64 (((rd a i).f_P).f_Cols) :: .int .i64 ((((rd a i).f_P).f_A).e0) :: .int .i64 ((((rd a i).f_P).f_A).e1) :: .int .i64 ((((rd a i).f_P).f_A).e2) :: .int .i64 ((((rd a i).f_P).f_A).e3) :: .int .i64 ((((rd a i).f_P).f_A).e4) :: .int .i64 ((((rd a i).f_P).f_A).e5) :: .int .i64 ((((rd a i).f_P).f_A).e6) :: .int .i64 ((((rd a i).f_P).f_A).e7) :: .int .i64 ((((rd a i).f_P).f_A).e8) :: .int .i64 ((((rd a i).f_P).f_A).e9) :: .int .i64 ((((rd a i).f_P).f_A).e10) :: .int .i64 ((((rd a i).f_P).f_A).e11) :: .int .i64 ((((rd a i).f_P).f_A).e12) :: .int .i64 ((((rd a i).f_P).f_A).e13) :: .int .i64 ((((rd a i).f_P).f_A).e14) :: .int .i64 ((((rd a i).f_P).f_A).e15) :: .int .i64 ((((rd a i).f_P).f_A).e16) :: .int .i64 ((((rd a i).f_P).f_A).e17) :: .int .i64 ((((rd a i).f_P).f_A).e18) :: .int .i64 ((((rd a i).f_P).f_A).e19) :: .int .i64 ((((rd a i).f_P).f_A).e20) :: .int .i64 ((((rd a i).f_P).f_A).e21) :: .int .i64 ((((rd a i).f_P).f_A).e22) :: .int .i64 ((((rd a i).f_P).f_A).e23) :: .int .i64 ((((rd a i).f_P).f_A).e24) :: .int .i64 ((((rd a i).f_P).f_A).e25) :: .int .i64 ((((rd a i).f_P).f_A).e26) :: .int .i64 ((((rd a i).f_P).f_A).e27) :: .int .i64 ((((rd a i).f_P).f_A).e28) :: .int .i64 ((((rd a i).f_P).f_A).e29) :: .int .i64 ((((rd a i).f_P).f_A).e30) :: .int .i64 ((((rd a i).f_P).f_A).e31) :: .int .i64 ((((rd a i).f_P).f_A).e32) :: .int .i64 ((((rd a i).f_P).f_A).e33) :: .int .i64 ((((rd a i).f_P).f_A).e34) :: .int .i64 ((((rd a i).f_P).f_A).e35) :: [])⟩, .agg ⟨[v9, v11]⟩]) rfl (radomelaw25_isState.calls k (a := (rd a i)) (b := (rd b i)) hy16 (h10.mono e14) (h12.mono e14)))) <| w_d rfl (d_not (b := y15) rfl) <| w_done ?_
  rcases its he with ⟨c19, he⟩ | ⟨c19, he⟩
  ·
   refine w_then rfl c19 <| w_seq <| w_region rfl <| w_d rfl (d_assign (v := .bool false) rfl) <| w_done ?_
   obtain rfl := Option.some.inj he
   refine w_return fn_85 rs_85 (.tmp (v := .bool false) rfl .nil) <| ⟨⟨[], rfl⟩, hle.trans e14, rfl⟩
  ·
   refine w_else rfl (Bool.eq_false_iff.2 c19) <| w_skip <| w_inBlock <| w_region rfl <| w_d rfl (d_move (v := .int .i64 i) rfl) <| w_d rfl (d_add (c := w64 (i + 1)) rfl rfl rfl) <| w_d rfl (d_assign (v := .int .i64 (w64 (i + 1))) rfl) <| w_done <| w_inLoop <| w_sl 0 (v_a) rfl <| w_sl 1 (v_b) rfl <| w_sl 4 (.bool t4) rfl ?_
   refine w_sl 5 (.int .i64 (w64 (i + 1))) rfl <| hh.l0 (hle.trans e14) he (h_a.mono e14) (h_b.mono e14)
 ·
  refine w_else rfl (decide_eq_false c2) <| w_exit rfl <| w_seq <| w_region rfl <| w_d rfl (d_assign (v := .bool true) rfl) <| w_done ?_
  obtain rfl := Option.some.inj he
  refine w_return fn_85 rs_85 (.tmp (v := .bool true) rfl .nil) <| ⟨⟨[], rfl⟩, hle, rfl⟩
theorem radomelaw25_areStates.ok : ∀ k, radomelaw25_areStates.OK (radomelaw25_areStates.hs k)
 | 0 => ⟨(by intros; exact nomatch (show none = some _ from by assumption))⟩
 | k + 1 => ⟨radomelaw25_areStates.b0_ok (k := k) (radomelaw25_areStates.ok k)⟩
theorem radomelaw25_areStates.calls (k : Nat) {H : Hp} {L : Items} {a : List predict_State} {b : List radomeref12_State} {v0_a : Value} {v1_b : Value} {r : Bool} (he : radomelaw25_areStates.f k a b = some r) (h0_a : Src k_predict_State H L v0_a a) (h1_b : Src k_radomeref12_State H L v1_b b) : Ct Tryd.prog 85 ⟨[v0_a, v1_b]⟩ H L (fun v H' L' => L = L' ∧ H = H' ∧ v = .bool r) := by
 refine ct_outs (O := radomelaw25_areStates.out r) (fun _ _ h => h) ?_
 have hle : H.le H := .refl _
 have hh := radomelaw25_areStates.ok k
 unfold radomelaw25_areStates.f at he
 refine ct_enter (args := [_, _]) fn_85 rfl nt_85 rfl <| w_seq <| w_region rfl <| w_d rfl (d_assign (v := .bool false) rfl) <| w_done <| w_seq <| w_seq <| w_region rfl <| w_d rfl (d_move (v := v0_a) rfl) <| w_d rfl (d_len Tryd.underlying61 rfl h0_a) <| w_d rfl (d_move (v := v1_b) rfl) <| w_d rfl (d_len Tryd.underlying65 rfl h1_b) ?_
 refine w_d rfl (d_neq rfl rfl) <| w_done ?_
 rcases its he with ⟨c1, he⟩ | ⟨c1, he⟩
 ·
  refine w_else rfl (nd_t c1) <| w_skip <| w_seq <| w_seq <| w_region rfl <| w_d rfl (d_assign (v := .int .i64 0) rfl) <| w_done <| w_block <| w_loop <| w_sl 0 (v0_a) rfl <| w_sl 1 (v1_b) rfl <| w_sl 4 (.bool false) rfl ?_
  refine w_sl 5 (.int .i64 0) rfl <| hh.l0 hle he h0_a h1_b
 ·
  refine w_then rfl (nd_f c1) <| w_seq <| w_region rfl <| w_d rfl (d_assign (v := .bool false) rfl) <| w_done ?_
  obtain rfl := Option.some.inj he
  refine w_return fn_85 rs_85 (.tmp (v := .bool false) rfl .nil) <| ⟨⟨[], rfl⟩, hle, rfl⟩
/-! ### radome/radomelaw25.isImm -/
noncomputable def radomelaw25_isImm.C : Code := (Tryd.f70.body).getD .skip
def radomelaw25_isImm.out (r : Bool) (H : Hp) (v : Value) : Prop := v = .bool r
abbrev radomelaw25_isImm.R (H0 : Hp) (L : Items) (r : Bool) : Value → Hp → Items → Prop := fun v H' L' => (∃ p, L' = p ++ L) ∧ H0.le H' ∧ radomelaw25_isImm.out r H' v
noncomputable def radomelaw25_isImm.f (k : Nat) (a : imm_Imm) (b : radomeref17_Imm) : Option Bool := (radomelaw25_areStates.f k a.f_States b.f_States).bind fun y3 => (gd y3 (radomelaw25_nums.f k a.f_Chances b.f_Chances) (false)).bind fun y12 => some (y3 && y12)
theorem radomelaw25_isImm.mono : ∀ k y0 y1, LeO (radomelaw25_isImm.f k y0 y1) (radomelaw25_isImm.f (k + 1) y0 y1) := fun k _ _ => by unfold radomelaw25_isImm.f; exact (LeO.bind (radomelaw25_areStates.mono k _ _) fun _ => LeO.bind (LeO.gd (radomelaw25_nums.mono k _ _)) fun _ => LeO.refl _)
theorem radomelaw25_isImm.calls (k : Nat) {H : Hp} {L : Items} {a : imm_Imm} {b : radomeref17_Imm} {v0_a : Value} {v1_a : Value} {v2_b : Value} {v3_b : Value} {r : Bool} (he : radomelaw25_isImm.f k a b = some r) (h0_a : Ro k_predict_State H v0_a a.f_States) (h1_a : Ro (Kd.int .i64) H v1_a a.f_Chances) (h2_b : Ro k_radomeref12_State H v2_b b.f_States) (h3_b : Ro (Kd.int .i64) H v3_b b.f_Chances) : Ct Tryd.prog 70 ⟨[.agg ⟨[v0_a, v1_a]⟩, .agg ⟨[v2_b, v3_b]⟩]⟩ H L (fun v H' L' => L = L' ∧ H = H' ∧ v = .bool r) := by
 refine ct_outs (O := radomelaw25_isImm.out r) (fun _ _ h => h) ?_
 have hle : H.le H := .refl _
 unfold radomelaw25_isImm.f at he
 refine ct_enter (args := [_, _]) fn_70 rfl nt_70 rfl <| w_seq <| w_region rfl <| w_a rfl (o_box (v := .agg ⟨[v0_a, v1_a]⟩) rfl rfl) ?_
 rintro _ _ _ ⟨b1, rfl, rfl, rfl⟩
 refine w_a rfl (o_box (v := .agg ⟨[v2_b, v3_b]⟩) rfl rfl) ?_
 rintro _ _ _ ⟨b2, rfl, rfl, rfl⟩
 refine w_d rfl (d_assign (v := .bool false) rfl) <| w_done <| w_seq <| w_region rfl <| w_d rfl (d_fld (o' := 0) Tryd.underlying63 rfl sz61 rfl rfl rfl) <| w_d rfl (d_loado (v := v0_a) ty61 rfl (.there .here) rfl rfl rfl rfl) <| w_d rfl (d_fld (o' := 0) Tryd.underlying67 rfl sz65 rfl rfl rfl) <| w_d rfl (d_loado (v := v2_b) ty65 rfl .here rfl rfl rfl rfl) ?_
 obtain ⟨y3, hy4, he⟩ := Option.bind_eq_some_iff.1 he
 refine w_d rfl (call_d (o_call co85 (vs := [v0_a, v2_b]) rfl (radomelaw25_areStates.calls k hy4 h0_a.src h2_b.src))) <| w_d rfl (d_move (v := .bool y3) rfl) <| w_g (g := y3) rfl rfl rfl wn_t (fun g7 => d_fld (o' := 1) Tryd.underlying63 rfl sz43 rfl rfl rfl) <| w_g (g := y3) rfl rfl rfl wn_t (fun g8 => d_loado (v := v1_a) ty43 (cvt g8) (.there .here) rfl rfl rfl rfl) <| w_g (g := y3) rfl rfl rfl wn_t (fun g9 => d_fld (o' := 1) Tryd.underlying67 rfl sz43 rfl rfl rfl) <| w_g (g := y3) rfl rfl rfl wn_t (fun g10 => d_loado (v := v3_b) ty43 (cvt g10) .here rfl rfl rfl rfl) ?_
 obtain ⟨y12, hy13, he⟩ := Option.bind_eq_some_iff.1 he
 refine w_g (g := y3) rfl rfl rfl wn_t (fun g11 => call_d (o_call co86 (vs := [v1_a, v3_b]) (acons (cvt g11) (acons (cvt g11) (anil))) (radomelaw25_nums.calls k (gd_t g11 hy13) h1_a.src h3_b.src))) <| w_d rfl (d_and' (b := y3) (p := y12) rfl rfl rfl) <| w_d rfl (d_assign (v := .bool (y3 && y12)) rfl) <| w_done ?_
 obtain rfl := Option.some.inj he
 refine w_return fn_70 rs_70 (.tmp (v := .bool (y3 && y12)) rfl .nil) <| ⟨⟨[_, _], rfl⟩, hle, rfl⟩
/-! ### radome/radomelaw25.isTrack -/
noncomputable def radomelaw25_isTrack.C : Code := (Tryd.f47.body).getD .skip
def radomelaw25_isTrack.out (r : Bool) (H : Hp) (v : Value) : Prop := v = .bool r
abbrev radomelaw25_isTrack.R (H0 : Hp) (L : Items) (r : Bool) : Value → Hp → Items → Prop := fun v H' L' => (∃ p, L' = p ++ L) ∧ H0.le H' ∧ radomelaw25_isTrack.out r H' v
noncomputable def radomelaw25_isTrack.f (k : Nat) (a : table_Track) (b : radomeref25_Track) : Option Bool := (gd (decide (a.f_ID = b.f_ID)) (radomelaw25_isLife.f k a.f_Life b.f_Life) (false)).bind fun y8 => (gd ((decide (a.f_ID = b.f_ID)) && y8) (radomelaw25_isImm.f k a.f_Imm b.f_Imm) (false)).bind fun y17 => some ((((decide (a.f_ID = b.f_ID)) && y8) && y17) && (decide (a.f_Time = b.f_Time)))
theorem radomelaw25_isTrack.mono : ∀ k y0 y1, LeO (radomelaw25_isTrack.f k y0 y1) (radomelaw25_isTrack.f (k + 1) y0 y1) := fun k _ _ => by unfold radomelaw25_isTrack.f; exact (LeO.bind (LeO.gd (radomelaw25_isLife.mono k _ _)) fun _ => LeO.bind (LeO.gd (radomelaw25_isImm.mono k _ _)) fun _ => LeO.refl _)
theorem radomelaw25_isTrack.calls (k : Nat) {H : Hp} {L : Items} {a : table_Track} {b : radomeref25_Track} {v0_a : Value} {v1_a : Value} {v2_b : Value} {v3_b : Value} {v4_b : Value} {r : Bool} (he : radomelaw25_isTrack.f k a b = some r) (h0_a : Ro k_predict_State H v0_a a.f_Imm.f_States) (h1_a : Ro (Kd.int .i64) H v1_a a.f_Imm.f_Chances) (h2_b : Ro Kd.bool H v2_b b.f_Life.f_Seen) (h3_b : Ro k_radomeref12_State H v3_b b.f_Imm.f_States) (h4_b : Ro (Kd.int .i64) H v4_b b.f_Imm.f_Chances) : Ct Tryd.prog 47 ⟨[.agg ⟨[.int .i64 a.f_ID, .int .i64 a.f_Life.f_Kind, .int .u32 a.f_Life.f_Seen, .int .i64 a.f_Life.f_Age, .int .i64 a.f_Life.f_Missed, v0_a, v1_a, .int .i64 a.f_Time]⟩, .agg ⟨[.int .i64 b.f_ID, .int .i64 b.f_Life.f_Kind, v2_b, .int .i64 b.f_Life.f_Missed, v3_b, v4_b, .int .i64 b.f_Time]⟩]⟩ H L (fun v H' L' => L = L' ∧ H = H' ∧ v = .bool r) := by
 refine ct_outs (O := radomelaw25_isTrack.out r) (fun _ _ h => h) ?_
 have hle : H.le H := .refl _
 unfold radomelaw25_isTrack.f at he
 refine ct_enter (args := [_, _]) fn_47 rfl nt_47 rfl <| w_seq <| w_region rfl <| w_a rfl (o_box (v := .agg ⟨[.int .i64 a.f_ID, .int .i64 a.f_Life.f_Kind, .int .u32 a.f_Life.f_Seen, .int .i64 a.f_Life.f_Age, .int .i64 a.f_Life.f_Missed, v0_a, v1_a, .int .i64 a.f_Time]⟩) rfl rfl) ?_
 rintro _ _ _ ⟨b1, rfl, rfl, rfl⟩
 refine w_a rfl (o_box (v := .agg ⟨[.int .i64 b.f_ID, .int .i64 b.f_Life.f_Kind, v2_b, .int .i64 b.f_Life.f_Missed, v3_b, v4_b, .int .i64 b.f_Time]⟩) rfl rfl) ?_
 rintro _ _ _ ⟨b2, rfl, rfl, rfl⟩
 refine w_d rfl (d_assign (v := .bool false) rfl) <| w_done <| w_seq <| w_region rfl <| w_d rfl (d_fld (o' := 0) Tryd.underlying78 rfl sz2 rfl rfl rfl) <| w_d rfl (d_loado (v := .int .i64 a.f_ID) ty2 rfl (.there .here) rfl rfl rfl rfl) <| w_d rfl (d_fld (o' := 0) Tryd.underlying100 rfl sz2 rfl rfl rfl) <| w_d rfl (d_loado (v := .int .i64 b.f_ID) ty2 rfl .here rfl rfl rfl rfl) <| w_d rfl (d_eql rfl rfl) <| w_d rfl (d_move (v := .bool (decide (a.f_ID = b.f_ID))) rfl) <| w_g (g := decide (a.f_ID = b.f_ID)) rfl rfl rfl wn_t (fun g3 => d_fld (o' := 1) Tryd.underlying78 rfl sz76 rfl rfl rfl) <| w_g (g := decide (a.f_ID = b.f_ID)) rfl rfl rfl wn_t (fun g4 => d_loado (v := .agg ⟨[.int .i64 a.f_Life.f_Kind, .int .u32 a.f_Life.f_Seen, .int .i64 a.f_Life.f_Age, .int .i64 a.f_Life.f_Missed]⟩) ty76 (cvt g4) (.there .here) rfl rfl rfl rfl) ?_
 refine w_g (g := decide (a.f_ID = b.f_ID)) rfl rfl rfl wn_t (fun g5 => d_fld (o' := 1) Tryd.underlying100 rfl sz95 rfl rfl rfl) <| w_g (g := decide (a.f_ID = b.f_ID)) rfl rfl rfl wn_t (fun g6 => d_loado (v := .agg ⟨[.int .i64 b.f_Life.f_Kind, v2_b, .int .i64 b.f_Life.f_Missed]⟩) ty95 (cvt g6) .here rfl rfl rfl rfl) ?_
 obtain ⟨y8, hy9, he⟩ := Option.bind_eq_some_iff.1 he
 refine w_g (g := decide (a.f_ID = b.f_ID)) rfl rfl rfl wn_t (fun g7 => call_d (o_call co45 (vs := [.agg ⟨[.int .i64 a.f_Life.f_Kind, .int .u32 a.f_Life.f_Seen, .int .i64 a.f_Life.f_Age, .int .i64 a.f_Life.f_Missed]⟩, .agg ⟨[.int .i64 b.f_Life.f_Kind, v2_b, .int .i64 b.f_Life.f_Missed]⟩]) (acons (cvt g7) (acons (cvt g7) (anil))) (radomelaw25_isLife.calls k (a := a.f_Life) (b := b.f_Life) (gd_t g7 hy9) h2_b))) <| w_d rfl (d_and' (b := (decide (a.f_ID = b.f_ID))) (p := y8) rfl rfl rfl) <| w_d rfl (d_move (v := .bool ((decide (a.f_ID = b.f_ID)) && y8)) rfl) <| w_g (g := (decide (a.f_ID = b.f_ID)) && y8) rfl rfl rfl wn_t (fun g12 => d_fld (o' := 5) Tryd.underlying78 rfl sz63 rfl rfl rfl) <| w_g (g := (decide (a.f_ID = b.f_ID)) && y8) rfl rfl rfl wn_t (fun g13 => d_loado (v := .agg ⟨[v0_a, v1_a]⟩) ty63 (cvt g13) (.there .here) rfl rfl rfl rfl) <| w_g (g := (decide (a.f_ID = b.f_ID)) && y8) rfl rfl rfl wn_t (fun g14 => d_fld (o' := 4) Tryd.underlying100 rfl sz67 rfl rfl rfl) <| w_g (g := (decide (a.f_ID = b.f_ID)) && y8) rfl rfl rfl wn_t (fun g15 => d_loado (v := .agg ⟨[v3_b, v4_b]⟩) ty67 (cvt g15) .here rfl rfl rfl rfl) ?_
 obtain ⟨y17, hy18, he⟩ := Option.bind_eq_some_iff.1 he
 refine w_g (g := (decide (a.f_ID = b.f_ID)) && y8) rfl rfl rfl wn_t (fun g16 => call_d (o_call co70 (vs := [.agg ⟨[v0_a, v1_a]⟩, .agg ⟨[v3_b, v4_b]⟩]) (acons (cvt g16) (acons (cvt g16) (anil))) (radomelaw25_isImm.calls k (a := a.f_Imm) (b := b.f_Imm) (gd_t g16 hy18) h0_a h1_a h3_b h4_b))) <| w_d rfl (d_and' (b := ((decide (a.f_ID = b.f_ID)) && y8)) (p := y17) rfl rfl rfl) <| w_d rfl (d_move (v := .bool (((decide (a.f_ID = b.f_ID)) && y8) && y17)) rfl) <| w_g (g := ((decide (a.f_ID = b.f_ID)) && y8) && y17) rfl rfl rfl wn_t (fun g21 => d_fld (o' := 7) Tryd.underlying78 rfl sz2 rfl rfl rfl) <| w_g (g := ((decide (a.f_ID = b.f_ID)) && y8) && y17) rfl rfl rfl wn_t (fun g22 => d_loado (v := .int .i64 a.f_Time) ty2 (cvt g22) (.there .here) rfl rfl rfl rfl) <| w_g (g := ((decide (a.f_ID = b.f_ID)) && y8) && y17) rfl rfl rfl wn_t (fun g23 => d_fld (o' := 6) Tryd.underlying100 rfl sz2 rfl rfl rfl) <| w_g (g := ((decide (a.f_ID = b.f_ID)) && y8) && y17) rfl rfl rfl wn_t (fun g24 => d_loado (v := .int .i64 b.f_Time) ty2 (cvt g24) .here rfl rfl rfl rfl) <| w_g (g := ((decide (a.f_ID = b.f_ID)) && y8) && y17) rfl rfl rfl wn_t (fun g25 => d_eql (cvt g25) (cvt g25)) <| w_d rfl (d_and' (b := (((decide (a.f_ID = b.f_ID)) && y8) && y17)) (p := (decide (a.f_Time = b.f_Time))) rfl rfl rfl) <| w_d rfl (d_assign (v := .bool ((((decide (a.f_ID = b.f_ID)) && y8) && y17) && (decide (a.f_Time = b.f_Time)))) rfl) <| w_done ?_
 obtain rfl := Option.some.inj he
 refine w_return fn_47 rs_47 (.tmp (v := .bool ((((decide (a.f_ID = b.f_ID)) && y8) && y17) && (decide (a.f_Time = b.f_Time)))) rfl .nil) <| ⟨⟨[_, _], rfl⟩, hle, rfl⟩
/-! ### radome/radomelaw25.areTracks -/
noncomputable def radomelaw25_areTracks.C : Code := (Tryd.f48.body).getD .skip
def radomelaw25_areTracks.out (r : Bool) (H : Hp) (v : Value) : Prop := v = .bool r
abbrev radomelaw25_areTracks.R (H0 : Hp) (L : Items) (r : Bool) : Value → Hp → Items → Prop := fun v H' L' => (∃ p, L' = p ++ L) ∧ H0.le H' ∧ radomelaw25_areTracks.out r H' v
structure radomelaw25_areTracks.Hs where
 l0 : (List table_Track) → (List radomeref25_Track) → Bool → Int → Option Bool
noncomputable def radomelaw25_areTracks.b0 (k : Nat) (h : radomelaw25_areTracks.Hs)  (a : List table_Track) (b : List radomeref25_Track) (t4 : Bool) (i : Int) : Option Bool := if i < (a.length : Int) then (if (0 : Int) ≤ i ∧ i < (a.length : Int) then (if (0 : Int) ≤ i ∧ i < (b.length : Int) then ((radomelaw25_isTrack.f k (rd a i) (rd b i)).bind fun y21 => if (!y21) = true then (some (false)) else (h.l0 a b t4 (w64 (i + 1)))) else none) else none) else (some (true))
noncomputable def radomelaw25_areTracks.hs : Nat → radomelaw25_areTracks.Hs
 | 0 => ⟨fun _ _ _ _ => none⟩
 | k + 1 => ⟨fun x0 x1 x2 x3 => radomelaw25_areTracks.b0 k (radomelaw25_areTracks.hs k) x0 x1 x2 x3⟩
noncomputable def radomelaw25_areTracks.f (k : Nat) (a : List table_Track) (b : List radomeref25_Track) : Option Bool := (fun h : radomelaw25_areTracks.Hs => if (a.length : Int) = (b.length : Int) then (h.l0 a b false 0) else (some (false))) (radomelaw25_areTracks.hs k)
structure radomelaw25_areTracks.LE (h h' : radomelaw25_areTracks.Hs) : Prop where
 l0 : ∀ y0 y1 y2 y3, LeO (h.l0 y0 y1 y2 y3) (h'.l0 y0 y1 y2 y3)
theorem radomelaw25_areTracks.b0_mono {k : Nat} {h h' : radomelaw25_areTracks.Hs} (hl : radomelaw25_areTracks.LE h h') : ∀ y0 y1 y2 y3, LeO (radomelaw25_areTracks.b0 k h y0 y1 y2 y3) (radomelaw25_areTracks.b0 (k + 1) h' y0 y1 y2 y3) := fun _ _ _ _ => (LeO.ite (LeO.ite (LeO.ite (LeO.bind (radomelaw25_isTrack.mono k _ _) fun _ => LeO.ite (LeO.refl _) (hl.l0 _ _ _ _)) (LeO.refl _)) (LeO.refl _)) (LeO.refl _))
theorem radomelaw25_areTracks.hs_mono : ∀ k, radomelaw25_areTracks.LE (radomelaw25_areTracks.hs k) (radomelaw25_areTracks.hs (k + 1))
 | 0 => ⟨fun _ _ _ _ => LeO.none _⟩
 | k + 1 => ⟨radomelaw25_areTracks.b0_mono (k := k) (radomelaw25_areTracks.hs_mono k)⟩
theorem radomelaw25_areTracks.mono : ∀ k y0 y1, LeO (radomelaw25_areTracks.f k y0 y1) (radomelaw25_areTracks.f (k + 1) y0 y1) := fun k _ _ => have hl := radomelaw25_areTracks.hs_mono k; by unfold radomelaw25_areTracks.f; exact (LeO.ite (hl.l0 _ _ _ _) (LeO.refl _))
noncomputable def radomelaw25_areTracks.Kl0 : List Item := .code (lopB (blkB (seqR (seqL (seqR (seqR radomelaw25_areTracks.C)))))) :: .inLoop (lopB (blkB (seqR (seqL (seqR (seqR radomelaw25_areTracks.C)))))) :: .inBlock 0 :: .code (seqR (seqR (seqR radomelaw25_areTracks.C))) :: []
structure radomelaw25_areTracks.OK (h : radomelaw25_areTracks.Hs) : Prop where
 l0 : ∀ {H0 H : Hp} {L : Items} {r : Bool} {jk_ : Nat → Value} {a : List table_Track} {b : List radomeref25_Track} {t4 : Bool} {i : Int} {v_a : Value} {v_b : Value} (_ : H0.le H) (_he : h.l0 a b t4 i = some r) (_h_a : Src k_table_Track H L v_a a) (_h_b : Src k_radomeref25_Track H L v_b b), Wp Tryd.prog 48 27 radomelaw25_areTracks.Kl0 (upd (upd (upd (upd jk_ 0 (v_a)) 1 (v_b)) 4 (.bool t4)) 5 (.int .i64 i)) H (L) (radomelaw25_areTracks.R H0 L r)
theorem radomelaw25_areTracks.b0_ok {k : Nat} {h : radomelaw25_areTracks.Hs} (hh : radomelaw25_areTracks.OK h) {H0 H : Hp} {L : Items} {r : Bool} {jk_ : Nat → Value} {a : List table_Track} {b : List radomeref25_Track} {t4 : Bool} {i : Int} {v_a : Value} {v_b : Value} (hle : H0.le H) (he : radomelaw25_areTracks.b0 k h a b t4 i = some r) (h_a : Src k_table_Track H L v_a a) (h_b : Src k_radomeref25_Track H L v_b b) : Wp Tryd.prog 48 27 radomelaw25_areTracks.Kl0 (upd (upd (upd (upd jk_ 0 (v_a)) 1 (v_b)) 4 (.bool t4)) 5 (.int .i64 i)) H (L) (radomelaw25_areTracks.R H0 L r) := by
 unfold radomelaw25_areTracks.b0 at he
 unfold radomelaw25_areTracks.Kl0
 refine w_seq <| w_seq <| w_region rfl <| w_d rfl (d_move (v := .int .i64 i) rfl) <| w_d rfl (d_move (v := v_a) rfl) <| w_d rfl (d_len Tryd.underlying72 rfl h_a) <| w_d rfl (d_lss rfl rfl) <| w_done ?_
 rcases its he with ⟨c2, he⟩ | ⟨c2, he⟩
 ·
  refine w_then rfl (decide_eq_true c2) <| w_skip <| w_seq <| w_block <| w_seq ?_
  obtain ⟨c3, he⟩ := rq he
  obtain ⟨_, l4, r5⟩ := el_of (kd := k_table_Track) h_a c3
  obtain ⟨v6, v8, rfl, h7, h9⟩ := k_table_Track_out r5
  obtain ⟨c10, he⟩ := rq he
  obtain ⟨_, l11, r12⟩ := el_of (kd := k_radomeref25_Track) h_b c10
  obtain ⟨v13, v15, v17, rfl, h14, h16, h18⟩ := k_radomeref25_Track_out r12
  refine w_drawn (p := 8) (tl := [8, 9]) [[], [], [(0, some 17), (1, some 18)], [(2, some 19)], [], [], [(4, some 21), (5, some 22)], [(6, some 23)]] [some 17, some 18, some 19, some 20, some 21, some 22, some 23, some 24] (fctF (.is (v_a) :: .is (.int .i64 i) :: .is (.pointer (some (pel v_a i 8))) :: .is (.agg ⟨[.int .i64 ((rd a i).f_ID), .int .i64 (((rd a i).f_Life).f_Kind), .int .u32 (((rd a i).f_Life).f_Seen), .int .i64 (((rd a i).f_Life).f_Age), .int .i64 (((rd a i).f_Life).f_Missed), v6, v8, .int .i64 ((rd a i).f_Time)]⟩) :: .is (v_b) :: .is (.int .i64 i) :: .is (.pointer (some (pel v_b i 7))) :: .is (.agg ⟨[.int .i64 ((rd b i).f_ID), .int .i64 (((rd b i).f_Life).f_Kind), v13, .int .i64 (((rd b i).f_Life).f_Missed), v15, v17, .int .i64 ((rd b i).f_Time)]⟩) :: [])) (fun m_ => L) (fun _ => none) mixed (by kernel_rfl) (by kernel_rfl) rfl (fct_mono (by kernel_rfl)) ⟨(fun H' m_ hH hm_ hu_ => depK_nil <| s_d (m_ 0) rfl (d_move (v := v_a) rfl) (by exact rfl) rfl), (fun H' m_ hH hm_ hu_ => depK_nil <| s_d (m_ 1) rfl (d_move (v := .int .i64 i) rfl) (by exact rfl) rfl), (by rintro H' m_ hH hm_ hu_ _ rfl _ rfl; exact depK_nil <| s_d (m_ 2) rfl (d_index (sz := 8) Tryd.underlying72 sz78 rfl (h_a.mono hH) rfl c3) (by exact rfl) rfl), (by rintro H' m_ hH hm_ hu_ _ rfl; exact depK_nil <| s_d (m_ 3) rfl (d_load (v := .agg ⟨[.int .i64 ((rd a i).f_ID), .int .i64 (((rd a i).f_Life).f_Kind), .int .u32 (((rd a i).f_Life).f_Seen), .int .i64 (((rd a i).f_Life).f_Age), .int .i64 (((rd a i).f_Life).f_Missed), v6, v8, .int .i64 ((rd a i).f_Time)]⟩) (cs := [.int .i64 ((rd a i).f_ID), .int .i64 (((rd a i).f_Life).f_Kind), .int .u32 (((rd a i).f_Life).f_Seen), .int .i64 (((rd a i).f_Life).f_Age), .int .i64 (((rd a i).f_Life).f_Missed), v6, v8, .int .i64 ((rd a i).f_Time)]) ty78 rfl rfl (by decide) (l4.mono hH) rfl) (by exact rfl) rfl), (fun H' m_ hH hm_ hu_ => depK_nil <| s_d (m_ 4) rfl (d_move (v := v_b) rfl) (by exact rfl) rfl), (fun H' m_ hH hm_ hu_ => depK_nil <| s_d (m_ 5) rfl (d_move (v := .int .i64 i) rfl) (by exact rfl) rfl), (by rintro H' m_ hH hm_ hu_ _ rfl _ rfl; exact depK_nil <| s_d (m_ 6) rfl (d_index (sz := 7) Tryd.underlying88 sz100 rfl (h_b.mono hH) rfl c10) (by exact rfl) rfl), (by rintro H' m_ hH hm_ hu_ _ rfl; exact depK_nil <| s_d (m_ 7) rfl (d_load (v := .agg ⟨[.int .i64 ((rd b i).f_ID), .int .i64 (((rd b i).f_Life).f_Kind), v13, .int .i64 (((rd b i).f_Life).f_Missed), v15, v17, .int .i64 ((rd b i).f_Time)]⟩) (cs := [.int .i64 ((rd b i).f_ID), .int .i64 (((rd b i).f_Life).f_Kind), v13, .int .i64 (((rd b i).f_Life).f_Missed), v15, v17, .int .i64 ((rd b i).f_Time)]) ty100 rfl rfl (by decide) (l11.mono hH) rfl) (by exact rfl) rfl), trivial⟩ ?_
  intro H19 e20
  rintro _ _ rfl _ _ rfl _ _ rfl _ _ rfl _ _ rfl _ _ rfl _ _ rfl _ _ rfl
  obtain ⟨y21, hy22, he⟩ := Option.bind_eq_some_iff.1 he
  refine w_d rfl (call_d (o_call co47 (vs := [.agg ⟨[.int .i64 ((rd a i).f_ID), .int .i64 (((rd a i).f_Life).f_Kind), .int .u32 (((rd a i).f_Life).f_Seen), .int .i64 (((rd a i).f_Life).f_Age), .int .i64 (((rd a i).f_Life).f_Missed), v6, v8, .int .i64 ((rd a i).f_Time)]⟩, .agg ⟨[.int .i64 ((rd b i).f_ID), .int .i64 (((rd b i).f_Life).f_Kind), v13, .int .i64 (((rd b i).f_Life).f_Missed), v15, v17, .int .i64 ((rd b i).f_Time)]⟩]) rfl (radomelaw25_isTrack.calls k (a := (rd a i)) (b := (rd b i)) hy22 (h7.mono e20) (h9.mono e20) (h14.mono e20) (h16.mono e20) (h18.mono e20)))) <| w_d rfl (d_not (b := y21) rfl) <| w_done ?_
  rcases its he with ⟨c25, he⟩ | ⟨c25, he⟩
  ·
   refine w_then rfl c25 <| w_seq <| w_region rfl <| w_d rfl (d_assign (v := .bool false) rfl) <| w_done ?_
   obtain rfl := Option.some.inj he
   refine w_return fn_48 rs_48 (.tmp (v := .bool false) rfl .nil) <| ⟨⟨[], rfl⟩, hle.trans e20, rfl⟩
  ·
   refine w_else rfl (Bool.eq_false_iff.2 c25) <| w_skip <| w_inBlock <| w_region rfl <| w_d rfl (d_move (v := .int .i64 i) rfl) <| w_d rfl (d_add (c := w64 (i + 1)) rfl rfl rfl) <| w_d rfl (d_assign (v := .int .i64 (w64 (i + 1))) rfl) <| w_done <| w_inLoop <| w_sl 0 (v_a) rfl <| w_sl 1 (v_b) rfl <| w_sl 4 (.bool t4) rfl ?_
   refine w_sl 5 (.int .i64 (w64 (i + 1))) rfl <| hh.l0 (hle.trans e20) he (h_a.mono e20) (h_b.mono e20)
 ·
  refine w_else rfl (decide_eq_false c2) <| w_exit rfl <| w_seq <| w_region rfl <| w_d rfl (d_assign (v := .bool true) rfl) <| w_done ?_
  obtain rfl := Option.some.inj he
  refine w_return fn_48 rs_48 (.tmp (v := .bool true) rfl .nil) <| ⟨⟨[], rfl⟩, hle, rfl⟩
theorem radomelaw25_areTracks.ok : ∀ k, radomelaw25_areTracks.OK (radomelaw25_areTracks.hs k)
 | 0 => ⟨(by intros; exact nomatch (show none = some _ from by assumption))⟩
 | k + 1 => ⟨radomelaw25_areTracks.b0_ok (k := k) (radomelaw25_areTracks.ok k)⟩
theorem radomelaw25_areTracks.calls (k : Nat) {H : Hp} {L : Items} {a : List table_Track} {b : List radomeref25_Track} {v0_a : Value} {v1_b : Value} {r : Bool} (he : radomelaw25_areTracks.f k a b = some r) (h0_a : Src k_table_Track H L v0_a a) (h1_b : Src k_radomeref25_Track H L v1_b b) : Ct Tryd.prog 48 ⟨[v0_a, v1_b]⟩ H L (fun v H' L' => L = L' ∧ H = H' ∧ v = .bool r) := by
 refine ct_outs (O := radomelaw25_areTracks.out r) (fun _ _ h => h) ?_
 have hle : H.le H := .refl _
 have hh := radomelaw25_areTracks.ok k
 unfold radomelaw25_areTracks.f at he
 refine ct_enter (args := [_, _]) fn_48 rfl nt_48 rfl <| w_seq <| w_region rfl <| w_d rfl (d_assign (v := .bool false) rfl) <| w_done <| w_seq <| w_seq <| w_region rfl <| w_d rfl (d_move (v := v0_a) rfl) <| w_d rfl (d_len Tryd.underlying72 rfl h0_a) <| w_d rfl (d_move (v := v1_b) rfl) <| w_d rfl (d_len Tryd.underlying88 rfl h1_b) ?_
 refine w_d rfl (d_neq rfl rfl) <| w_done ?_
 rcases its he with ⟨c1, he⟩ | ⟨c1, he⟩
 ·
  refine w_else rfl (nd_t c1) <| w_skip <| w_seq <| w_seq <| w_region rfl <| w_d rfl (d_assign (v := .int .i64 0) rfl) <| w_done <| w_block <| w_loop <| w_sl 0 (v0_a) rfl <| w_sl 1 (v1_b) rfl <| w_sl 4 (.bool false) rfl ?_
  refine w_sl 5 (.int .i64 0) rfl <| hh.l0 hle he h0_a h1_b
 ·
  refine w_then rfl (nd_f c1) <| w_seq <| w_region rfl <| w_d rfl (d_assign (v := .bool false) rfl) <| w_done ?_
  obtain rfl := Option.some.inj he
  refine w_return fn_48 rs_48 (.tmp (v := .bool false) rfl .nil) <| ⟨⟨[], rfl⟩, hle, rfl⟩
/-! ### (*radome/table.Table).Begin -/
noncomputable def table_Table_Begin_nil.C : Code := (Tryd.f32.body).getD .skip
def table_Table_Begin_nil.out (r : Int × (Option Int)) (H : Hp) (v : Value) : Prop := v = .tuple ⟨[.int .i64 r.1, errV 106 r.2]⟩
abbrev table_Table_Begin_nil.R (H0 : Hp) (L : Items) (r : Int × (Option Int)) : Value → Hp → Items → Prop := fun v H' L' => (∃ p, L' = p ++ L) ∧ H0.le H' ∧ table_Table_Begin_nil.out r H' v
noncomputable def table_Table_Begin_nil.f (k : Nat) (m : imm_Imm) (time : Int) : Option (Int × (Option Int)) := some (0, some 1)
theorem table_Table_Begin_nil.mono : ∀ k y0 y1, LeO (table_Table_Begin_nil.f k y0 y1) (table_Table_Begin_nil.f (k + 1) y0 y1) := fun k _ _ => by unfold table_Table_Begin_nil.f; exact (LeO.refl _)
theorem table_Table_Begin_nil.calls (k : Nat) {H : Hp} {L : Items} {m : imm_Imm} {time : Int} {v0_m : Value} {v1_m : Value} {r : Int × (Option Int)} (he : table_Table_Begin_nil.f k m time = some r) (h0_m : Ro k_predict_State H v0_m m.f_States) (h1_m : Ro (Kd.int .i64) H v1_m m.f_Chances) : Ct Tryd.prog 32 ⟨[.pointer none, .agg ⟨[v0_m, v1_m]⟩, .int .i64 time]⟩ H L (fun v H' L' => L = L' ∧ H = H' ∧ v = .tuple ⟨[.int .i64 r.1, errV 106 r.2]⟩) := by
 refine ct_outs (O := table_Table_Begin_nil.out r) (fun _ _ h => h) ?_
 have hle : H.le H := .refl _
 unfold table_Table_Begin_nil.f at he
 refine ct_enter (args := [_, _, _]) fn_32 rfl nt_32 rfl <| w_seq <| w_region rfl <| w_a rfl (o_box (v := .agg ⟨[v0_m, v1_m]⟩) rfl rfl) ?_
 rintro _ _ _ ⟨b1, rfl, rfl, rfl⟩
 refine w_d rfl (d_assign (v := .int .i64 0) rfl) <| w_d rfl (d_assign (v := errV 106 none) rfl) <| w_done <| w_seq <| w_block <| w_seq <| w_region rfl <| w_d rfl (d_move (v := .pointer none) rfl) <| w_d rfl (d_eqptr (a := none) Tryd.underlying56 rfl rfl) <| w_d rfl (d_move (v := .bool true) rfl) <| w_g (v := undef) (g := false) rfl rfl rfl rfl (fun g_ => nomatch g_) <| w_g (v := undef) (g := false) rfl rfl rfl rfl (fun g_ => nomatch g_) ?_
 refine w_d rfl (d_pickt (v := .bool true) rfl rfl) <| w_d rfl (d_assign (v := .bool true) rfl) <| w_done <| w_then rfl rfl <| w_seq <| w_region rfl <| w_d rfl (d_iface (v := .int .i64 1) Tryd.underlying106 rfl rfl) <| w_d rfl (d_assign (v := .int .i64 0) rfl) <| w_d rfl (d_assign (v := errV 106 (some 1)) rfl) <| w_done ?_
 obtain rfl := Option.some.inj he
 refine w_return fn_32 rs_32 (.tmp (v := .int .i64 0) rfl (.tmp (v := errV 106 (some 1)) rfl .nil)) <| ⟨⟨[_], rfl⟩, hle, rfl⟩
/-! ### (*radome/table.Table).Scan -/
noncomputable def table_Table_Scan_nil.C : Code := (Tryd.f36.body).getD .skip
def table_Table_Scan_nil.out (r : life_Life × (Option Int)) (H : Hp) (v : Value) : Prop := v = .tuple ⟨[.agg ⟨[.int .i64 r.1.f_Kind, .int .u32 r.1.f_Seen, .int .i64 r.1.f_Age, .int .i64 r.1.f_Missed]⟩, errV 106 r.2]⟩
abbrev table_Table_Scan_nil.R (H0 : Hp) (L : Items) (r : life_Life × (Option Int)) : Value → Hp → Items → Prop := fun v H' L' => (∃ p, L' = p ++ L) ∧ H0.le H' ∧ table_Table_Scan_nil.out r H' v
noncomputable def table_Table_Scan_nil.f (k : Nat) (id_ : Int) (hit : Bool) (m : imm_Imm) (time : Int) : Option (life_Life × (Option Int)) := some ((⟨0, 0, 0, 0⟩ : life_Life), some 1)
theorem table_Table_Scan_nil.mono : ∀ k y0 y1 y2 y3, LeO (table_Table_Scan_nil.f k y0 y1 y2 y3) (table_Table_Scan_nil.f (k + 1) y0 y1 y2 y3) := fun k _ _ _ _ => by unfold table_Table_Scan_nil.f; exact (LeO.refl _)
theorem table_Table_Scan_nil.calls (k : Nat) {H : Hp} {L : Items} {id_ : Int} {hit : Bool} {m : imm_Imm} {time : Int} {v0_m : Value} {v1_m : Value} {r : life_Life × (Option Int)} (he : table_Table_Scan_nil.f k id_ hit m time = some r) (h0_m : Ro k_predict_State H v0_m m.f_States) (h1_m : Ro (Kd.int .i64) H v1_m m.f_Chances) : Ct Tryd.prog 36 ⟨[.pointer none, .int .i64 id_, .bool hit, .agg ⟨[v0_m, v1_m]⟩, .int .i64 time]⟩ H L (fun v H' L' => L = L' ∧ H = H' ∧ v = .tuple ⟨[.agg ⟨[.int .i64 r.1.f_Kind, .int .u32 r.1.f_Seen, .int .i64 r.1.f_Age, .int .i64 r.1.f_Missed]⟩, errV 106 r.2]⟩) := by
 refine ct_outs (O := table_Table_Scan_nil.out r) (fun _ _ h => h) ?_
 have hle : H.le H := .refl _
 unfold table_Table_Scan_nil.f at he
 refine ct_enter (args := [_, _, _, _, _]) fn_36 rfl nt_36 rfl <| w_seq <| w_region rfl <| w_a rfl (o_box (v := .agg ⟨[v0_m, v1_m]⟩) rfl rfl) ?_
 rintro _ _ _ ⟨b1, rfl, rfl, rfl⟩
 refine w_a rfl (o_alloc zr76 rfl) ?_
 rintro _ _ _ ⟨b2, rfl, rfl, rfl⟩
 refine w_d rfl (d_assign (v := errV 106 none) rfl) <| w_done <| w_seq <| w_seq <| w_region rfl <| w_d rfl (d_move (v := .pointer none) rfl) <| w_d rfl (d_eqptr (a := none) Tryd.underlying56 rfl rfl) <| w_d rfl (d_move (v := .bool true) rfl) <| w_g (v := undef) (g := false) rfl rfl rfl rfl (fun g_ => nomatch g_) <| w_g (v := undef) (g := false) rfl rfl rfl rfl (fun g_ => nomatch g_) <| w_d rfl (d_pickt (v := .bool true) rfl rfl) <| w_done ?_
 refine w_then rfl rfl <| w_seq <| w_region rfl <| w_d rfl (d_build (cs' := [.int .i64 0, .int .u32 0, .int .i64 0, .int .i64 0]) Tryd.underlying76 zr76 rfl (by kernel_rfl) (parts := []) rfl .nil) <| w_d rfl (d_iface (v := .int .i64 1) Tryd.underlying106 rfl rfl) <| w_a0 rfl (o_store (v := .agg ⟨[.int .i64 0, .int .u32 0, .int .i64 0, .int .i64 0]⟩) sz76 rfl rfl rfl rfl (one_cons rfl (one_cons rfl (one_cons rfl (one_cons rfl one_nil)))) .here (.here (.here (.here (.here .done))))) ?_
 rintro _ _ _ ⟨rfl, rfl, rfl⟩
 refine w_d rfl (d_assign (v := errV 106 (some 1)) rfl) <| w_done ?_
 obtain rfl := Option.some.inj he
 refine w_return fn_36 rs_36 (.box (v := .agg ⟨[.int .i64 0, .int .u32 0, .int .i64 0, .int .i64 0]⟩) rfl ty76 rfl rfl .here rfl (.tmp (v := errV 106 (some 1)) rfl .nil)) <| ⟨⟨[_, _], rfl⟩, hle, rfl⟩
/-! ### (*radome/table.Table).Find -/
noncomputable def table_Table_Find_nil.C : Code := (Tryd.f35.body).getD .skip
def table_Table_Find_nil.out (r : table_Track × (Option Int)) (H : Hp) (v : Value) : Prop := ∃ v0, ∃ v1, v = .tuple ⟨[.agg ⟨[.int .i64 r.1.f_ID, .int .i64 r.1.f_Life.f_Kind, .int .u32 r.1.f_Life.f_Seen, .int .i64 r.1.f_Life.f_Age, .int .i64 r.1.f_Life.f_Missed, v0, v1, .int .i64 r.1.f_Time]⟩, errV 106 r.2]⟩ ∧ Ro k_predict_State H v0 r.1.f_Imm.f_States ∧ Ro (Kd.int .i64) H v1 r.1.f_Imm.f_Chances
theorem table_Table_Find_nil.out_mono (r : table_Track × (Option Int)) {H H' : Hp} {v : Value} (hle : H.le H') (h : table_Table_Find_nil.out r H v) : table_Table_Find_nil.out r H' v := by
 obtain ⟨v0, v1, rfl, h0, h1⟩ := h; exact ⟨v0, v1, rfl, h0.mono hle, h1.mono hle⟩
abbrev table_Table_Find_nil.R (H0 : Hp) (L : Items) (r : table_Track × (Option Int)) : Value → Hp → Items → Prop := fun v H' L' => (∃ p, L' = p ++ L) ∧ H0.le H' ∧ table_Table_Find_nil.out r H' v
noncomputable def table_Table_Find_nil.f (k : Nat) (id_ : Int) : Option (table_Track × (Option Int)) := some ((⟨0, (⟨0, 0, 0, 0⟩ : life_Life), (⟨[], []⟩ : imm_Imm), 0⟩ : table_Track), some 1)
theorem table_Table_Find_nil.mono : ∀ k y0, LeO (table_Table_Find_nil.f k y0) (table_Table_Find_nil.f (k + 1) y0) := fun k _ => by unfold table_Table_Find_nil.f; exact (LeO.refl _)
theorem table_Table_Find_nil.calls (k : Nat) {H : Hp} {L : Items} {id_ : Int} {r : table_Track × (Option Int)} (he : table_Table_Find_nil.f k id_ = some r) : Ct Tryd.prog 35 ⟨[.pointer none, .int .i64 id_]⟩ H L (fun v H' L' => L = L' ∧ H.le H' ∧ table_Table_Find_nil.out r H' v) := by
 refine ct_out (O := table_Table_Find_nil.out r) ?_
 have hle : H.le H := .refl _
 unfold table_Table_Find_nil.f at he
 refine ct_enter (args := [_, _]) fn_35 rfl nt_35 rfl <| w_seq <| w_region rfl <| w_a rfl (o_alloc zr78 rfl) ?_
 rintro _ _ _ ⟨b1, rfl, rfl, rfl⟩
 refine w_d rfl (d_assign (v := errV 106 none) rfl) <| w_done <| w_seq <| w_seq <| w_region rfl <| w_d rfl (d_move (v := .pointer none) rfl) <| w_d rfl (d_eqptr (a := none) Tryd.underlying56 rfl rfl) <| w_done <| w_then rfl rfl <| w_seq <| w_region rfl <| w_d rfl (d_build (cs' := [.int .i64 0, .int .i64 0, .int .u32 0, .int .i64 0, .int .i64 0, .slice none 0 0, .slice none 0 0, .int .i64 0]) Tryd.underlying78 zr78 rfl (by kernel_rfl) (parts := []) rfl .nil) ?_
 refine w_d rfl (d_iface (v := .int .i64 1) Tryd.underlying106 rfl rfl) <| w_a0 rfl (o_store (v := .agg ⟨[.int .i64 0, .int .i64 0, .int .u32 0, .int .i64 0, .int .i64 0, .slice none 0 0, .slice none 0 0, .int .i64 0]⟩) sz78 rfl rfl rfl rfl (one_cons rfl (one_cons rfl (one_cons rfl (one_cons rfl (one_cons rfl (one_cons rfl (one_cons rfl (one_cons rfl one_nil)))))))) .here (.here (.here (.here (.here (.here (.here (.here (.here .done))))))))) ?_
 rintro _ _ _ ⟨rfl, rfl, rfl⟩
 refine w_d rfl (d_assign (v := errV 106 (some 1)) rfl) <| w_done ?_
 obtain rfl := Option.some.inj he
 refine w_return fn_35 rs_35 (.box (v := .agg ⟨[.int .i64 0, .int .i64 0, .int .u32 0, .int .i64 0, .int .i64 0, .slice none 0 0, .slice none 0 0, .int .i64 0]⟩) rfl ty78 rfl rfl .here rfl (.tmp (v := errV 106 (some 1)) rfl .nil)) <| ⟨⟨[_], rfl⟩, hle, ⟨.slice none 0 0, .slice none 0 0, rfl, (ro_nil _ _), (ro_nil _ _)⟩⟩
/-! ### (*radome/table.Table).Drop -/
noncomputable def table_Table_Drop_nil.C : Code := (Tryd.f39.body).getD .skip
def table_Table_Drop_nil.out (r : table_Track × (Option Int)) (H : Hp) (v : Value) : Prop := ∃ v0, ∃ v1, v = .tuple ⟨[.agg ⟨[.int .i64 r.1.f_ID, .int .i64 r.1.f_Life.f_Kind, .int .u32 r.1.f_Life.f_Seen, .int .i64 r.1.f_Life.f_Age, .int .i64 r.1.f_Life.f_Missed, v0, v1, .int .i64 r.1.f_Time]⟩, errV 106 r.2]⟩ ∧ Ro k_predict_State H v0 r.1.f_Imm.f_States ∧ Ro (Kd.int .i64) H v1 r.1.f_Imm.f_Chances
theorem table_Table_Drop_nil.out_mono (r : table_Track × (Option Int)) {H H' : Hp} {v : Value} (hle : H.le H') (h : table_Table_Drop_nil.out r H v) : table_Table_Drop_nil.out r H' v := by
 obtain ⟨v0, v1, rfl, h0, h1⟩ := h; exact ⟨v0, v1, rfl, h0.mono hle, h1.mono hle⟩
abbrev table_Table_Drop_nil.R (H0 : Hp) (L : Items) (r : table_Track × (Option Int)) : Value → Hp → Items → Prop := fun v H' L' => (∃ p, L' = p ++ L) ∧ H0.le H' ∧ table_Table_Drop_nil.out r H' v
noncomputable def table_Table_Drop_nil.f (k : Nat) (id_ : Int) : Option (table_Track × (Option Int)) := (table_Table_Find_nil.f k id_).bind fun y2 => if y2.2.isSome = true then (some ((⟨0, (⟨0, 0, 0, 0⟩ : life_Life), (⟨[], []⟩ : imm_Imm), 0⟩ : table_Track), y2.2)) else (none)
theorem table_Table_Drop_nil.mono : ∀ k y0, LeO (table_Table_Drop_nil.f k y0) (table_Table_Drop_nil.f (k + 1) y0) := fun k _ => by unfold table_Table_Drop_nil.f; exact (LeO.bind (table_Table_Find_nil.mono k _) fun _ => LeO.ite (LeO.refl _) (LeO.refl _))
theorem table_Table_Drop_nil.calls (k : Nat) {H : Hp} {L : Items} {id_ : Int} {r : table_Track × (Option Int)} (he : table_Table_Drop_nil.f k id_ = some r) : Ct Tryd.prog 39 ⟨[.pointer none, .int .i64 id_]⟩ H L (fun v H' L' => L = L' ∧ H.le H' ∧ table_Table_Drop_nil.out r H' v) := by
 refine ct_out (O := table_Table_Drop_nil.out r) ?_
 have hle : H.le H := .refl _
 unfold table_Table_Drop_nil.f at he
 refine ct_enter (args := [_, _]) fn_39 rfl nt_39 rfl <| w_seq <| w_region rfl <| w_a rfl (o_alloc zr78 rfl) ?_
 rintro _ _ _ ⟨b1, rfl, rfl, rfl⟩
 refine w_d rfl (d_assign (v := errV 106 none) rfl) <| w_done <| w_seq <| w_region rfl <| w_d rfl (d_move (v := .pointer none) rfl) <| w_d rfl (d_move (v := .int .i64 id_) rfl) ?_
 obtain ⟨y2, hy3, he⟩ := Option.bind_eq_some_iff.1 he
 refine w_a rfl (o_call co35 (vs := [.pointer none, .int .i64 id_]) rfl (table_Table_Find_nil.calls k hy3)) ?_
 rintro _ H4 _ ⟨rfl, e5, ⟨v6, v8, rfl, h7, h9⟩⟩
 refine w_d rfl (d_move (v := .tuple ⟨[.agg ⟨[.int .i64 y2.1.f_ID, .int .i64 y2.1.f_Life.f_Kind, .int .u32 y2.1.f_Life.f_Seen, .int .i64 y2.1.f_Life.f_Age, .int .i64 y2.1.f_Life.f_Missed, v6, v8, .int .i64 y2.1.f_Time]⟩, errV 106 y2.2]⟩) rfl) <| w_d rfl (d_ext (vs := [.agg ⟨[.int .i64 y2.1.f_ID, .int .i64 y2.1.f_Life.f_Kind, .int .u32 y2.1.f_Life.f_Seen, .int .i64 y2.1.f_Life.f_Age, .int .i64 y2.1.f_Life.f_Missed, v6, v8, .int .i64 y2.1.f_Time]⟩, errV 106 y2.2]) rfl rfl) <| w_d rfl (d_ext (vs := [.agg ⟨[.int .i64 y2.1.f_ID, .int .i64 y2.1.f_Life.f_Kind, .int .u32 y2.1.f_Life.f_Seen, .int .i64 y2.1.f_Life.f_Age, .int .i64 y2.1.f_Life.f_Missed, v6, v8, .int .i64 y2.1.f_Time]⟩, errV 106 y2.2]) rfl rfl) <| w_a rfl (o_alloc zr78 rfl) ?_
 rintro _ _ _ ⟨b10, rfl, rfl, rfl⟩
 refine w_a0 rfl (o_store (v := .agg ⟨[.int .i64 y2.1.f_ID, .int .i64 y2.1.f_Life.f_Kind, .int .u32 y2.1.f_Life.f_Seen, .int .i64 y2.1.f_Life.f_Age, .int .i64 y2.1.f_Life.f_Missed, v6, v8, .int .i64 y2.1.f_Time]⟩) sz78 rfl rfl rfl rfl (one_cons rfl (one_cons rfl (one_cons rfl (one_cons rfl (one_cons rfl (one_cons (h7.one) (one_cons (h9.one) (one_cons rfl one_nil)))))))) .here (.here (.here (.here (.here (.here (.here (.here (.here .done))))))))) ?_
 rintro _ _ _ ⟨rfl, rfl, rfl⟩
 refine w_d rfl (d_assign (v := errV 106 y2.2) rfl) <| w_done <| w_seq <| w_seq <| w_region rfl <| w_d rfl (d_move (v := errV 106 y2.2) rfl) <| w_d rfl (d_nenil (e := y2.2) Tryd.underlying24 rfl) <| w_done ?_
 rcases its he with ⟨c11, he⟩ | ⟨c11, he⟩
 ·
  refine w_then rfl c11 <| w_seq <| w_region rfl <| w_d rfl (d_build (cs' := [.int .i64 0, .int .i64 0, .int .u32 0, .int .i64 0, .int .i64 0, .slice none 0 0, .slice none 0 0, .int .i64 0]) Tryd.underlying78 zr78 rfl (by kernel_rfl) (parts := []) rfl .nil) <| w_d rfl (d_move (v := errV 106 y2.2) rfl) <| w_a0 rfl (o_store (v := .agg ⟨[.int .i64 0, .int .i64 0, .int .u32 0, .int .i64 0, .int .i64 0, .slice none 0 0, .slice none 0 0, .int .i64 0]⟩) sz78 rfl rfl rfl rfl (one_cons rfl (one_cons rfl (one_cons rfl (one_cons rfl (one_cons rfl (one_cons rfl (one_cons rfl (one_cons rfl one_nil)))))))) (.there .here) (.here (.here (.here (.here (.here (.here (.here (.here .done))))))))) ?_
  rintro _ _ _ ⟨rfl, rfl, rfl⟩
  refine w_d rfl (d_assign (v := errV 106 y2.2) rfl) <| w_done ?_
  obtain rfl := Option.some.inj he
  refine w_return fn_39 rs_39 (.box (v := .agg ⟨[.int .i64 0, .int .i64 0, .int .u32 0, .int .i64 0, .int .i64 0, .slice none 0 0, .slice none 0 0, .int .i64 0]⟩) rfl ty78 rfl rfl (.there .here) rfl (.tmp (v := errV 106 y2.2) rfl .nil)) <| ⟨⟨[_, _], rfl⟩, hle.trans e5, ⟨.slice none 0 0, .slice none 0 0, rfl, (ro_nil _ _), (ro_nil _ _)⟩⟩
 ·
  refine w_else rfl (Bool.eq_false_iff.2 c11) <| absurd he (by simp)
/-! ### (*radome/table.Table).Tracks -/
noncomputable def table_Table_Tracks_nil.C : Code := (Tryd.f34.body).getD .skip
abbrev table_Table_Tracks_nil.out (r : (List table_Track)) (H : Hp) (v : Value) : Prop := Ro k_table_Track H v r
abbrev table_Table_Tracks_nil.R (H0 : Hp) (L : Items) (r : (List table_Track)) : Value → Hp → Items → Prop := fun v H' L' => (∃ p, L' = p ++ L) ∧ H0.le H' ∧ table_Table_Tracks_nil.out r H' v
structure table_Table_Tracks_nil.Hs where
noncomputable def table_Table_Tracks_nil.hs : Nat → table_Table_Tracks_nil.Hs
 | 0 => ⟨⟩
 | k + 1 => ⟨⟩
noncomputable def table_Table_Tracks_nil.f (k : Nat)  : Option (List table_Track) := (fun h : table_Table_Tracks_nil.Hs => some ([])) (table_Table_Tracks_nil.hs k)
structure table_Table_Tracks_nil.LE (h h' : table_Table_Tracks_nil.Hs) : Prop where
theorem table_Table_Tracks_nil.hs_mono : ∀ k, table_Table_Tracks_nil.LE (table_Table_Tracks_nil.hs k) (table_Table_Tracks_nil.hs (k + 1))
 | 0 => ⟨⟩
 | k + 1 => ⟨⟩
theorem table_Table_Tracks_nil.mono : ∀ k, LeO (table_Table_Tracks_nil.f k) (table_Table_Tracks_nil.f (k + 1)) := fun k => have hl := table_Table_Tracks_nil.hs_mono k; by unfold table_Table_Tracks_nil.f; exact (LeO.refl _)
structure table_Table_Tracks_nil.OK (h : table_Table_Tracks_nil.Hs) : Prop where
theorem table_Table_Tracks_nil.ok : ∀ k, table_Table_Tracks_nil.OK (table_Table_Tracks_nil.hs k)
 | 0 => ⟨⟩
 | k + 1 => ⟨⟩
theorem table_Table_Tracks_nil.calls (k : Nat) {H : Hp} {L : Items} {r : (List table_Track)} (he : table_Table_Tracks_nil.f k  = some r) : Ct Tryd.prog 34 ⟨[.pointer none]⟩ H L (fun v H' L' => L = L' ∧ H.le H' ∧ table_Table_Tracks_nil.out r H' v) := by
 refine ct_out (O := table_Table_Tracks_nil.out r) ?_
 have hle : H.le H := .refl _
 have hh := table_Table_Tracks_nil.ok k
 unfold table_Table_Tracks_nil.f at he
 refine ct_enter (args := [_]) fn_34 rfl nt_34 rfl <| w_seq <| w_region rfl <| w_d rfl (d_assign (v := .slice none 0 0) rfl) <| w_done <| w_seq <| w_seq <| w_region rfl <| w_d rfl (d_move (v := .pointer none) rfl) <| w_d rfl (d_eqptr (a := none) Tryd.underlying56 rfl rfl) <| w_done <| w_then rfl rfl ?_
 refine w_seq <| w_region rfl <| w_d rfl (d_assign (v := .slice none 0 0) rfl) <| w_done ?_
 obtain rfl := Option.some.inj he
 refine w_return fn_34 rs_34 (.tmp (v := .slice none 0 0) rfl .nil) <| ⟨⟨[], rfl⟩, hle, (ro_nil _ _)⟩
/-! ### (*radome/table.Table).Clear -/
noncomputable def table_Table_Clear_nil.C : Code := (Tryd.f40.body).getD .skip
abbrev table_Table_Clear_nil.out (r : (List table_Track)) (H : Hp) (v : Value) : Prop := Ro k_table_Track H v r
abbrev table_Table_Clear_nil.R (H0 : Hp) (L : Items) (r : (List table_Track)) : Value → Hp → Items → Prop := fun v H' L' => (∃ p, L' = p ++ L) ∧ H0.le H' ∧ table_Table_Clear_nil.out r H' v
noncomputable def table_Table_Clear_nil.f (k : Nat)  : Option (List table_Track) := (table_Table_Tracks_nil.f k).bind fun y1 => some (y1)
theorem table_Table_Clear_nil.mono : ∀ k, LeO (table_Table_Clear_nil.f k) (table_Table_Clear_nil.f (k + 1)) := fun k => by unfold table_Table_Clear_nil.f; exact (LeO.bind (table_Table_Tracks_nil.mono k) fun _ => LeO.refl _)
theorem table_Table_Clear_nil.calls (k : Nat) {H : Hp} {L : Items} {r : (List table_Track)} (he : table_Table_Clear_nil.f k  = some r) : Ct Tryd.prog 40 ⟨[.pointer none]⟩ H L (fun v H' L' => L = L' ∧ H.le H' ∧ table_Table_Clear_nil.out r H' v) := by
 refine ct_out (O := table_Table_Clear_nil.out r) ?_
 have hle : H.le H := .refl _
 unfold table_Table_Clear_nil.f at he
 refine ct_enter (args := [_]) fn_40 rfl nt_40 rfl <| w_seq <| w_region rfl <| w_d rfl (d_assign (v := .slice none 0 0) rfl) <| w_done <| w_seq <| w_region rfl <| w_d rfl (d_move (v := .pointer none) rfl) ?_
 obtain ⟨y1, hy2, he⟩ := Option.bind_eq_some_iff.1 he
 refine w_a rfl (o_call co34 (vs := [.pointer none]) rfl (table_Table_Tracks_nil.calls k hy2)) ?_
 rintro v5 H3 _ ⟨rfl, e4, h6⟩
 refine w_d rfl (d_assign (v := v5) rfl) <| w_done <| w_seq <| w_seq <| w_region rfl <| w_d rfl (d_move (v := .pointer none) rfl) <| w_d rfl (d_neptr (a := none) Tryd.underlying56 rfl rfl) <| w_done <| w_else rfl rfl <| w_skip <| w_seq <| w_region rfl ?_
 refine w_d rfl (d_move (v := v5) rfl) <| w_d rfl (d_assign (v := v5) rfl) <| w_done ?_
 obtain rfl := Option.some.inj he
 refine w_return fn_40 rs_40 (.tmp (v := v5) rfl .nil) <| ⟨⟨[], rfl⟩, hle.trans e4, h6⟩
/-! ### (*radome/table.Table).Given -/
noncomputable def table_Table_Given_nil.C : Code := (Tryd.f41.body).getD .skip
def table_Table_Given_nil.out (r : Int) (H : Hp) (v : Value) : Prop := v = .int .i64 r
abbrev table_Table_Given_nil.R (H0 : Hp) (L : Items) (r : Int) : Value → Hp → Items → Prop := fun v H' L' => (∃ p, L' = p ++ L) ∧ H0.le H' ∧ table_Table_Given_nil.out r H' v
noncomputable def table_Table_Given_nil.f (k : Nat)  : Option Int := some (0)
theorem table_Table_Given_nil.mono : ∀ k, LeO (table_Table_Given_nil.f k) (table_Table_Given_nil.f (k + 1)) := fun k => by unfold table_Table_Given_nil.f; exact (LeO.refl _)
theorem table_Table_Given_nil.calls (k : Nat) {H : Hp} {L : Items} {r : Int} (he : table_Table_Given_nil.f k  = some r) : Ct Tryd.prog 41 ⟨[.pointer none]⟩ H L (fun v H' L' => L = L' ∧ H = H' ∧ v = .int .i64 r) := by
 refine ct_outs (O := table_Table_Given_nil.out r) (fun _ _ h => h) ?_
 have hle : H.le H := .refl _
 unfold table_Table_Given_nil.f at he
 refine ct_enter (args := [_]) fn_41 rfl nt_41 rfl <| w_seq <| w_region rfl <| w_d rfl (d_assign (v := .int .i64 0) rfl) <| w_done <| w_seq <| w_seq <| w_region rfl <| w_d rfl (d_move (v := .pointer none) rfl) <| w_d rfl (d_eqptr (a := none) Tryd.underlying56 rfl rfl) <| w_done <| w_then rfl rfl ?_
 refine w_seq <| w_region rfl <| w_d rfl (d_assign (v := .int .i64 0) rfl) <| w_done ?_
 obtain rfl := Option.some.inj he
 refine w_return fn_41 rs_41 (.tmp (v := .int .i64 0) rfl .nil) <| ⟨⟨[], rfl⟩, hle, rfl⟩
end Go.Proofs.YtjhpkkhcgpilfaaDoor.GTA

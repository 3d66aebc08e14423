/- printed by gen.py -/
import Derived.Test.YtkccpkccdbfomaaGreatDoorGBPt
namespace Go.Proofs.YtkccpkccdbfomaaGreatDoor.GBP
open Go Go.RowKit Go.Proofs.YtkccpkccdbfomaaGreatDoorK Go.Proofs.YtkccpkccdbfomaaGreatDoor
set_option maxRecDepth 100000
set_option maxHeartbeats 2000000
set_option linter.unusedVariables false
set_option linter.unusedSimpArgs false
noncomputable def Ys.C : Code := (Tryz.f133.body).getD .skip
def Ys.out (r : Bool) (H : Hp) (v : Value) : Prop := v = .bool r
noncomputable def Ys.f (k : Nat) (n : Int) : Option Bool := some ((decide (1 ≤ n)) && (decide (n ≤ 6)))
theorem Ys.mono : ∀ k y0, LeO (Ys.f k y0) (Ys.f (k + 1) y0) := fun k _ => by unfold Ys.f; exact (LeO.refl _)
theorem Ys.calls (k : Nat) {H : Hp} {L : Items} {n : Int} {r : Bool} (he : Ys.f k n = some r) : Ct Tryz.prog 133 ⟨[.int .i64 n]⟩ H L (fun v H' L' => L = L' ∧ H = H' ∧ v = .bool r) := by
 refine Yp (O := Ys.out r) (fun _ _ h => h) ?_
 have hle : H.le H := .refl _
 unfold Ys.f at he
 refine QV (args := [_]) fn_133 rfl nt_133 rfl <| wR rfl <| wA (.bool false) rfl rfl <| wQ rfl <| wM (.int .i64 n) rfl rfl <| w_d rfl (ZO rfl rfl) <| wM (.bool (decide (1 ≤ n))) rfl rfl <| w_g (g := decide (1 ≤ n)) rfl rfl rfl wn_t (fun g1 => QT (v := .int .i64 n) rfl) <| w_g (g := decide (1 ≤ n)) rfl rfl rfl wn_t (fun g2 => MB (cvt g2) rfl) ?_
 refine w_d rfl (d_and' (b := (decide (1 ≤ n))) (p := (decide (n ≤ 6))) rfl rfl rfl) <| wA (.bool ((decide (1 ≤ n)) && (decide (n ≤ 6)))) rfl rfl <| Qb ?_
 obtain rfl := sj he
 refine Ql fn_133 rs_133 (.tmp (v := .bool ((decide (1 ≤ n)) && (decide (n ≤ 6)))) rfl .nil) <| ⟨⟨[], rfl⟩, hle, rfl⟩
noncomputable def XH.C : Code := (Tryz.f90.body).getD .skip
def XH.out (r : X9 × (Option Int)) (H : Hp) (v : Value) : Prop := v = .tuple ⟨[.agg ⟨(.int .i64 r.1.f_Rows :: .int .i64 r.1.f_Cols :: .int .i64 r.1.f_A.e0 :: .int .i64 r.1.f_A.e1 :: .int .i64 r.1.f_A.e2 :: .int .i64 r.1.f_A.e3 :: .int .i64 r.1.f_A.e4 :: .int .i64 r.1.f_A.e5 :: .int .i64 r.1.f_A.e6 :: .int .i64 r.1.f_A.e7 :: .int .i64 r.1.f_A.e8 :: .int .i64 r.1.f_A.e9 :: .int .i64 r.1.f_A.e10 :: .int .i64 r.1.f_A.e11 :: .int .i64 r.1.f_A.e12 :: .int .i64 r.1.f_A.e13 :: .int .i64 r.1.f_A.e14 :: .int .i64 r.1.f_A.e15 :: .int .i64 r.1.f_A.e16 :: .int .i64 r.1.f_A.e17 :: .int .i64 r.1.f_A.e18 :: .int .i64 r.1.f_A.e19 :: .int .i64 r.1.f_A.e20 :: .int .i64 r.1.f_A.e21 :: .int .i64 r.1.f_A.e22 :: .int .i64 r.1.f_A.e23 :: .int .i64 r.1.f_A.e24 :: .int .i64 r.1.f_A.e25 :: .int .i64 r.1.f_A.e26 :: .int .i64 r.1.f_A.e27 :: .int .i64 r.1.f_A.e28 :: .int .i64 r.1.f_A.e29 :: .int .i64 r.1.f_A.e30 :: .int .i64 r.1.f_A.e31 :: .int .i64 r.1.f_A.e32 :: .int .i64 r.1.f_A.e33 :: .int .i64 r.1.f_A.e34 :: .int .i64 r.1.f_A.e35 :: [])⟩, errV 104 r.2]⟩
abbrev XH.R (H0 : Hp) (L : Items) (r : X9 × (Option Int)) := fR H0 L (XH.out r)
structure XH.Hs where
 l0 : X9 → (Option Int) → X9 → (List (List Int)) → Int → Int → Option (X9 × (Option Int))
noncomputable def XH.b0 (k : Nat) (h : XH.Hs) (t2_1 : X9) (t3 : Option Int) (m_1 : X9) (t28 : List (List Int)) (t29 t30 : Int) : Option (X9 × (Option Int)) := if t30 < t29 then (if (0 : Int) ≤ t30 ∧ t30 < (t28.length : Int) then (if ((rd t28 t30).length : Int) = m_1.f_Cols then (if (0 : Int) ≤ w64 (t30 * m_1.f_Cols) ∧ (w64 (t30 * m_1.f_Cols) : Int) ≤ 36 ∧ 36 ≤ (36 : Int) then ((some (T73.ofL (cpy (T73.toL m_1.f_A) (w64 (t30 * m_1.f_Cols)) (rd t28 t30)))).bind fun y35 => h.l0 t2_1 t3 ⟨m_1.f_Rows, m_1.f_Cols, y35⟩ t28 t29 (w64 (t30 + 1))) else none) else (some (⟨0, 0, ⟨0, 0, 0, 0, 0, 0, 0, 0, 0, 0, 0, 0, 0, 0, 0, 0, 0, 0, 0, 0, 0, 0, 0, 0, 0, 0, 0, 0, 0, 0, 0, 0, 0, 0, 0, 0⟩⟩, some 1))) else none) else (some (m_1, none))
noncomputable def XH.hs : Nat → XH.Hs
 | 0 => ⟨fun _ _ _ _ _ _ => none⟩
 | k + 1 => ⟨fun x0 x1 x2 x3 x4 x5 => XH.b0 k (XH.hs k) x0 x1 x2 x3 x4 x5⟩
noncomputable def XH.f (k : Nat) (rows : List (List Int)) : Option (X9 × (Option Int)) := (fun h : XH.Hs => (Ys.f k (rows.length : Int)).bind fun y2 => if (!(!y2)) = true → (0 : Int) ≤ 0 ∧ 0 < (rows.length : Int) then ((gd (!(!y2)) (Ys.f k ((rd rows 0).length : Int)) (false)).bind fun y15 => if ((!y2) || (!y15)) = true then (some (⟨0, 0, ⟨0, 0, 0, 0, 0, 0, 0, 0, 0, 0, 0, 0, 0, 0, 0, 0, 0, 0, 0, 0, 0, 0, 0, 0, 0, 0, 0, 0, 0, 0, 0, 0, 0, 0, 0, 0⟩⟩, some 1)) else (if (0 : Int) ≤ 0 ∧ 0 < (rows.length : Int) then (h.l0 ⟨0, 0, ⟨0, 0, 0, 0, 0, 0, 0, 0, 0, 0, 0, 0, 0, 0, 0, 0, 0, 0, 0, 0, 0, 0, 0, 0, 0, 0, 0, 0, 0, 0, 0, 0, 0, 0, 0, 0⟩⟩ none ⟨(rows.length : Int), ((rd rows 0).length : Int), ⟨0, 0, 0, 0, 0, 0, 0, 0, 0, 0, 0, 0, 0, 0, 0, 0, 0, 0, 0, 0, 0, 0, 0, 0, 0, 0, 0, 0, 0, 0, 0, 0, 0, 0, 0, 0⟩⟩ rows (rows.length : Int) 0) else none)) else none) (XH.hs k)
structure XH.LE (h h' : XH.Hs) : Prop where
 l0 : ∀ y0 y1 y2 y3 y4 y5, LeO (h.l0 y0 y1 y2 y3 y4 y5) (h'.l0 y0 y1 y2 y3 y4 y5)
theorem XH.b0_mono {k : Nat} {h h' : XH.Hs} (hl : XH.LE h h') : ∀ y0 y1 y2 y3 y4 y5, LeO (XH.b0 k h y0 y1 y2 y3 y4 y5) (XH.b0 (k + 1) h' y0 y1 y2 y3 y4 y5) := fun _ _ _ _ _ _ => (LeO.ite (LeO.ite (LeO.ite (LeO.ite (LeO.bind (LeO.refl _) fun _ => hl.l0 _ _ _ _ _ _) (LeO.refl _)) (LeO.refl _)) (LeO.refl _)) (LeO.refl _))
theorem XH.hs_mono : ∀ k, XH.LE (XH.hs k) (XH.hs (k + 1))
 | 0 => ⟨fun _ _ _ _ _ _ => LeO.none _⟩
 | k + 1 => ⟨XH.b0_mono (k := k) (XH.hs_mono k)⟩
theorem XH.mono : ∀ k y0, LeO (XH.f k y0) (XH.f (k + 1) y0) := fun k _ => have hl := XH.hs_mono k; by unfold XH.f; exact (LeO.bind (Ys.mono k _) fun _ => LeO.ite (LeO.bind (LeO.gd (Ys.mono k _)) fun _ => LeO.ite (LeO.refl _) (LeO.ite (hl.l0 _ _ _ _ _ _) (LeO.refl _))) (LeO.refl _))
noncomputable def XH.Kl0 : List Item := .code (lopB (blkB (seqR (seqL (seqR (seqR (seqR XH.C))))))) :: .inLoop (lopB (blkB (seqR (seqL (seqR (seqR (seqR XH.C))))))) :: .inBlock 0 :: .code (seqR (seqR (seqR (seqR XH.C)))) :: []
structure XH.OK (h : XH.Hs) : Prop where
 l0 : ∀ {H0 H : Hp} {L : Items} {r : X9 × (Option Int)} {jk_ : Nat → Value} {t2_1 : X9} {t3 : Option Int} {m_1 : X9} {t28 : List (List Int)} {t29 : Int} {t30 : Int} {v_t28 : Value} {b_t2 : Nat} {b_m : Nat} (_ : H0.le H) (_he : h.l0 t2_1 t3 m_1 t28 t29 t30 = some r) (_h_t28 : Src (Kd.slice kI64) H L v_t28 t28), Wp Tryz.prog 90 52 XH.Kl0 (upd (upd (upd (upd (upd (upd jk_ 2 (pt b_t2)) 3 (errV 104 t3)) 4 (pt b_m)) 28 (v_t28)) 29 (.int .i64 t29)) 30 (.int .i64 t30)) H (bx b_m (.int .i64 m_1.f_Rows :: .int .i64 m_1.f_Cols :: .int .i64 m_1.f_A.e0 :: .int .i64 m_1.f_A.e1 :: .int .i64 m_1.f_A.e2 :: .int .i64 m_1.f_A.e3 :: .int .i64 m_1.f_A.e4 :: .int .i64 m_1.f_A.e5 :: .int .i64 m_1.f_A.e6 :: .int .i64 m_1.f_A.e7 :: .int .i64 m_1.f_A.e8 :: .int .i64 m_1.f_A.e9 :: .int .i64 m_1.f_A.e10 :: .int .i64 m_1.f_A.e11 :: .int .i64 m_1.f_A.e12 :: .int .i64 m_1.f_A.e13 :: .int .i64 m_1.f_A.e14 :: .int .i64 m_1.f_A.e15 :: .int .i64 m_1.f_A.e16 :: .int .i64 m_1.f_A.e17 :: .int .i64 m_1.f_A.e18 :: .int .i64 m_1.f_A.e19 :: .int .i64 m_1.f_A.e20 :: .int .i64 m_1.f_A.e21 :: .int .i64 m_1.f_A.e22 :: .int .i64 m_1.f_A.e23 :: .int .i64 m_1.f_A.e24 :: .int .i64 m_1.f_A.e25 :: .int .i64 m_1.f_A.e26 :: .int .i64 m_1.f_A.e27 :: .int .i64 m_1.f_A.e28 :: .int .i64 m_1.f_A.e29 :: .int .i64 m_1.f_A.e30 :: .int .i64 m_1.f_A.e31 :: .int .i64 m_1.f_A.e32 :: .int .i64 m_1.f_A.e33 :: .int .i64 m_1.f_A.e34 :: .int .i64 m_1.f_A.e35 :: []) 75 :: bx b_t2 (.int .i64 t2_1.f_Rows :: .int .i64 t2_1.f_Cols :: .int .i64 t2_1.f_A.e0 :: .int .i64 t2_1.f_A.e1 :: .int .i64 t2_1.f_A.e2 :: .int .i64 t2_1.f_A.e3 :: .int .i64 t2_1.f_A.e4 :: .int .i64 t2_1.f_A.e5 :: .int .i64 t2_1.f_A.e6 :: .int .i64 t2_1.f_A.e7 :: .int .i64 t2_1.f_A.e8 :: .int .i64 t2_1.f_A.e9 :: .int .i64 t2_1.f_A.e10 :: .int .i64 t2_1.f_A.e11 :: .int .i64 t2_1.f_A.e12 :: .int .i64 t2_1.f_A.e13 :: .int .i64 t2_1.f_A.e14 :: .int .i64 t2_1.f_A.e15 :: .int .i64 t2_1.f_A.e16 :: .int .i64 t2_1.f_A.e17 :: .int .i64 t2_1.f_A.e18 :: .int .i64 t2_1.f_A.e19 :: .int .i64 t2_1.f_A.e20 :: .int .i64 t2_1.f_A.e21 :: .int .i64 t2_1.f_A.e22 :: .int .i64 t2_1.f_A.e23 :: .int .i64 t2_1.f_A.e24 :: .int .i64 t2_1.f_A.e25 :: .int .i64 t2_1.f_A.e26 :: .int .i64 t2_1.f_A.e27 :: .int .i64 t2_1.f_A.e28 :: .int .i64 t2_1.f_A.e29 :: .int .i64 t2_1.f_A.e30 :: .int .i64 t2_1.f_A.e31 :: .int .i64 t2_1.f_A.e32 :: .int .i64 t2_1.f_A.e33 :: .int .i64 t2_1.f_A.e34 :: .int .i64 t2_1.f_A.e35 :: []) 75 :: L) (XH.R H0 L r)
theorem XH.b0_ok {k : Nat} {h : XH.Hs} (hh : XH.OK h) {H0 H : Hp} {L : Items} {r : X9 × (Option Int)} {jk_ : Nat → Value} {t2_1 : X9} {t3 : Option Int} {m_1 : X9} {t28 : List (List Int)} {t29 t30 : Int} {v_t28 : Value} {b_t2 b_m : Nat} (hle : H0.le H) (he : XH.b0 k h t2_1 t3 m_1 t28 t29 t30 = some r) (h_t28 : Src (Kd.slice kI64) H L v_t28 t28) : Wp Tryz.prog 90 52 XH.Kl0 (upd (upd (upd (upd (upd (upd jk_ 2 (pt b_t2)) 3 (errV 104 t3)) 4 (pt b_m)) 28 (v_t28)) 29 (.int .i64 t29)) 30 (.int .i64 t30)) H (bx b_m (.int .i64 m_1.f_Rows :: .int .i64 m_1.f_Cols :: .int .i64 m_1.f_A.e0 :: .int .i64 m_1.f_A.e1 :: .int .i64 m_1.f_A.e2 :: .int .i64 m_1.f_A.e3 :: .int .i64 m_1.f_A.e4 :: .int .i64 m_1.f_A.e5 :: .int .i64 m_1.f_A.e6 :: .int .i64 m_1.f_A.e7 :: .int .i64 m_1.f_A.e8 :: .int .i64 m_1.f_A.e9 :: .int .i64 m_1.f_A.e10 :: .int .i64 m_1.f_A.e11 :: .int .i64 m_1.f_A.e12 :: .int .i64 m_1.f_A.e13 :: .int .i64 m_1.f_A.e14 :: .int .i64 m_1.f_A.e15 :: .int .i64 m_1.f_A.e16 :: .int .i64 m_1.f_A.e17 :: .int .i64 m_1.f_A.e18 :: .int .i64 m_1.f_A.e19 :: .int .i64 m_1.f_A.e20 :: .int .i64 m_1.f_A.e21 :: .int .i64 m_1.f_A.e22 :: .int .i64 m_1.f_A.e23 :: .int .i64 m_1.f_A.e24 :: .int .i64 m_1.f_A.e25 :: .int .i64 m_1.f_A.e26 :: .int .i64 m_1.f_A.e27 :: .int .i64 m_1.f_A.e28 :: .int .i64 m_1.f_A.e29 :: .int .i64 m_1.f_A.e30 :: .int .i64 m_1.f_A.e31 :: .int .i64 m_1.f_A.e32 :: .int .i64 m_1.f_A.e33 :: .int .i64 m_1.f_A.e34 :: .int .i64 m_1.f_A.e35 :: []) 75 :: bx b_t2 (.int .i64 t2_1.f_Rows :: .int .i64 t2_1.f_Cols :: .int .i64 t2_1.f_A.e0 :: .int .i64 t2_1.f_A.e1 :: .int .i64 t2_1.f_A.e2 :: .int .i64 t2_1.f_A.e3 :: .int .i64 t2_1.f_A.e4 :: .int .i64 t2_1.f_A.e5 :: .int .i64 t2_1.f_A.e6 :: .int .i64 t2_1.f_A.e7 :: .int .i64 t2_1.f_A.e8 :: .int .i64 t2_1.f_A.e9 :: .int .i64 t2_1.f_A.e10 :: .int .i64 t2_1.f_A.e11 :: .int .i64 t2_1.f_A.e12 :: .int .i64 t2_1.f_A.e13 :: .int .i64 t2_1.f_A.e14 :: .int .i64 t2_1.f_A.e15 :: .int .i64 t2_1.f_A.e16 :: .int .i64 t2_1.f_A.e17 :: .int .i64 t2_1.f_A.e18 :: .int .i64 t2_1.f_A.e19 :: .int .i64 t2_1.f_A.e20 :: .int .i64 t2_1.f_A.e21 :: .int .i64 t2_1.f_A.e22 :: .int .i64 t2_1.f_A.e23 :: .int .i64 t2_1.f_A.e24 :: .int .i64 t2_1.f_A.e25 :: .int .i64 t2_1.f_A.e26 :: .int .i64 t2_1.f_A.e27 :: .int .i64 t2_1.f_A.e28 :: .int .i64 t2_1.f_A.e29 :: .int .i64 t2_1.f_A.e30 :: .int .i64 t2_1.f_A.e31 :: .int .i64 t2_1.f_A.e32 :: .int .i64 t2_1.f_A.e33 :: .int .i64 t2_1.f_A.e34 :: .int .i64 t2_1.f_A.e35 :: []) 75 :: L) (XH.R H0 L r) := by
 unfold XH.b0 at he
 unfold XH.Kl0
 refine wR rfl <| w_d rfl (XW rfl rfl) <| wE ?_
 rcases its he with ⟨c27, he⟩ | ⟨c27, he⟩
 ·
  refine QD rfl (dt c27) <| QF <| QX <| Q2 <| wR rfl <| wM (.int .i64 t30) rfl rfl <| rK he fun c28 he => w_d rfl (XA (sz := 1) Tryz.underlying71 sz72 rfl h_t28.th.th rfl c28) ?_
  obtain ⟨_, l29, r30⟩ := Zp (kd := (Kd.slice kI64)) h_t28.th.th c28
  obtain ⟨v31, rfl, h32⟩ := r30
  refine w_d rfl (YU (v := v31) (cs := [v31]) ty72 rfl rfl (by decide) l29 rfl) <| wA (.int .i64 t30) rfl rfl <| wA v31 rfl rfl <| wE <| wR rfl <| wM v31 rfl rfl <| w_d rfl (Xo Tryz.underlying72 rfl h32.src) <| w_d rfl (Xi (o' := 1) Tryz.underlying75 rfl sz3 rfl rfl rfl) <| wL (.int .i64 m_1.f_Cols) ty3 rfl rfl .here rfl rfl <| w_d rfl (Zl rfl rfl) ?_
  refine Qb ?_
  rcases its he with ⟨c33, he⟩ | ⟨c33, he⟩
  ·
   refine QE rfl (nd_t c33) <| QF <| QL rfl <| w_d rfl (Xi (o' := 2) Tryz.underlying75 rfl sz73 rfl rfl rfl) <| wM (.int .i64 t30) rfl rfl <| w_d rfl (Xi (o' := 1) Tryz.underlying75 rfl sz3 rfl rfl rfl) <| wL (.int .i64 m_1.f_Cols) ty3 rfl rfl .here rfl rfl <| w_d rfl (JD (c := w64 (t30 * m_1.f_Cols)) rfl rfl rfl) <| rK he fun c34 he => w_d rfl (Nn (e := 2) (sz := 1) Tryz.underlying73 sz2 rfl (.inr ⟨_, _, rfl, rfl⟩) (.inl ⟨rfl, rfl⟩) c34) <| wM v31 rfl rfl <| bK he fun y35 h36 he => ?_
   have h37 : T73.toL y35 = cpy (T73.toL m_1.f_A) (w64 (t30 * m_1.f_Cols)) (rd t28 t30) := by rw [← Option.some.inj h36]; exact T73.toL_ofL (WS ⟨c34.1, Int.le_trans c34.2.1 c34.2.2⟩)
   refine w_a rfl (WU (xs := T73.toL m_1.f_A) (zs := T73.toL y35) (m := 36) (off := 2) Tryz.underlying72 sz2 rfl rfl h32.src rfl rfl ⟨c34.1, Int.le_trans c34.2.1 c34.2.2⟩ h37 rfl .here) ?_
   rintro _ _ _ ⟨rfl, rfl, rfl⟩
   refine Qb <| Xw <| QL rfl <| w_d rfl (XQ (c := w64 (t30 + 1)) rfl rfl rfl) <| wM (.int .i64 (w64 (t30 + 1))) rfl rfl <| Qb <| XG <| w_sl 2 (pt b_t2) rfl <| w_sl 3 (errV 104 t3) rfl <| w_sl 4 (pt b_m) rfl <| w_sl 28 (v_t28) rfl <| w_sl 29 (.int .i64 t29) rfl ?_
   refine w_sl 30 (.int .i64 (w64 (t30 + 1))) rfl <| hh.l0 hle he h_t28
  ·
   refine QD rfl (nd_f c33) <| wR rfl <| w_d rfl (XE (cs' := (.int .i64 0 :: .int .i64 0 :: .int .i64 0 :: .int .i64 0 :: .int .i64 0 :: .int .i64 0 :: .int .i64 0 :: .int .i64 0 :: .int .i64 0 :: .int .i64 0 :: .int .i64 0 :: .int .i64 0 :: .int .i64 0 :: .int .i64 0 :: .int .i64 0 :: .int .i64 0 :: .int .i64 0 :: .int .i64 0 :: .int .i64 0 :: .int .i64 0 :: .int .i64 0 :: .int .i64 0 :: .int .i64 0 :: .int .i64 0 :: .int .i64 0 :: .int .i64 0 :: .int .i64 0 :: .int .i64 0 :: .int .i64 0 :: .int .i64 0 :: .int .i64 0 :: .int .i64 0 :: .int .i64 0 :: .int .i64 0 :: .int .i64 0 :: .int .i64 0 :: .int .i64 0 :: .int .i64 0 :: [])) Tryz.underlying75 zr75 rfl (by kernel_rfl) (parts := []) rfl .nil) <| w_d rfl (Zf (v := .int .i64 1) Tryz.underlying104 rfl rfl) <| wS (.agg ⟨(.int .i64 0 :: .int .i64 0 :: .int .i64 0 :: .int .i64 0 :: .int .i64 0 :: .int .i64 0 :: .int .i64 0 :: .int .i64 0 :: .int .i64 0 :: .int .i64 0 :: .int .i64 0 :: .int .i64 0 :: .int .i64 0 :: .int .i64 0 :: .int .i64 0 :: .int .i64 0 :: .int .i64 0 :: .int .i64 0 :: .int .i64 0 :: .int .i64 0 :: .int .i64 0 :: .int .i64 0 :: .int .i64 0 :: .int .i64 0 :: .int .i64 0 :: .int .i64 0 :: .int .i64 0 :: .int .i64 0 :: .int .i64 0 :: .int .i64 0 :: .int .i64 0 :: .int .i64 0 :: .int .i64 0 :: .int .i64 0 :: .int .i64 0 :: .int .i64 0 :: .int .i64 0 :: .int .i64 0 :: [])⟩) sz75 rfl rfl rfl rfl rfl (oc rfl (oc rfl (oc rfl (oc rfl (oc rfl (oc rfl (oc rfl (oc rfl (oc rfl (oc rfl (oc rfl (oc rfl (oc rfl (oc rfl (oc rfl (oc rfl (oc rfl (oc rfl (oc rfl (oc rfl (oc rfl (oc rfl (oc rfl (oc rfl (oc rfl (oc rfl (oc rfl (oc rfl (oc rfl (oc rfl (oc rfl (oc rfl (oc rfl (oc rfl (oc rfl (oc rfl (oc rfl (oc rfl oz)))))))))))))))))))))))))))))))))))))) .h1 (.here (.here (.here (.here (.here (.here (.here (.here (.here (.here (.here (.here (.here (.here (.here (.here (.here (.here (.here (.here (.here (.here (.here (.here (.here (.here (.here (.here (.here (.here (.here (.here (.here (.here u4)))))))))))))))))))))))))))))))))) <| wA (errV 104 (some 1)) rfl rfl <| Qb ?_
   obtain rfl := sj he
   refine Ql fn_90 rs_90 (.box (v := .agg ⟨(.int .i64 0 :: .int .i64 0 :: .int .i64 0 :: .int .i64 0 :: .int .i64 0 :: .int .i64 0 :: .int .i64 0 :: .int .i64 0 :: .int .i64 0 :: .int .i64 0 :: .int .i64 0 :: .int .i64 0 :: .int .i64 0 :: .int .i64 0 :: .int .i64 0 :: .int .i64 0 :: .int .i64 0 :: .int .i64 0 :: .int .i64 0 :: .int .i64 0 :: .int .i64 0 :: .int .i64 0 :: .int .i64 0 :: .int .i64 0 :: .int .i64 0 :: .int .i64 0 :: .int .i64 0 :: .int .i64 0 :: .int .i64 0 :: .int .i64 0 :: .int .i64 0 :: .int .i64 0 :: .int .i64 0 :: .int .i64 0 :: .int .i64 0 :: .int .i64 0 :: .int .i64 0 :: .int .i64 0 :: [])⟩) rfl ty75 rfl rfl .h1 rfl (.tmp (v := errV 104 (some 1)) rfl .nil)) <| ⟨⟨[_, _], rfl⟩, hle, rfl⟩
 ·
  refine QE rfl (df c27) <| X3 rfl <| wR rfl <| wL (.agg ⟨(.int .i64 m_1.f_Rows :: .int .i64 m_1.f_Cols :: .int .i64 m_1.f_A.e0 :: .int .i64 m_1.f_A.e1 :: .int .i64 m_1.f_A.e2 :: .int .i64 m_1.f_A.e3 :: .int .i64 m_1.f_A.e4 :: .int .i64 m_1.f_A.e5 :: .int .i64 m_1.f_A.e6 :: .int .i64 m_1.f_A.e7 :: .int .i64 m_1.f_A.e8 :: .int .i64 m_1.f_A.e9 :: .int .i64 m_1.f_A.e10 :: .int .i64 m_1.f_A.e11 :: .int .i64 m_1.f_A.e12 :: .int .i64 m_1.f_A.e13 :: .int .i64 m_1.f_A.e14 :: .int .i64 m_1.f_A.e15 :: .int .i64 m_1.f_A.e16 :: .int .i64 m_1.f_A.e17 :: .int .i64 m_1.f_A.e18 :: .int .i64 m_1.f_A.e19 :: .int .i64 m_1.f_A.e20 :: .int .i64 m_1.f_A.e21 :: .int .i64 m_1.f_A.e22 :: .int .i64 m_1.f_A.e23 :: .int .i64 m_1.f_A.e24 :: .int .i64 m_1.f_A.e25 :: .int .i64 m_1.f_A.e26 :: .int .i64 m_1.f_A.e27 :: .int .i64 m_1.f_A.e28 :: .int .i64 m_1.f_A.e29 :: .int .i64 m_1.f_A.e30 :: .int .i64 m_1.f_A.e31 :: .int .i64 m_1.f_A.e32 :: .int .i64 m_1.f_A.e33 :: .int .i64 m_1.f_A.e34 :: .int .i64 m_1.f_A.e35 :: [])⟩) ty75 rfl rfl .here rfl rfl <| wS (.agg ⟨(.int .i64 m_1.f_Rows :: .int .i64 m_1.f_Cols :: .int .i64 m_1.f_A.e0 :: .int .i64 m_1.f_A.e1 :: .int .i64 m_1.f_A.e2 :: .int .i64 m_1.f_A.e3 :: .int .i64 m_1.f_A.e4 :: .int .i64 m_1.f_A.e5 :: .int .i64 m_1.f_A.e6 :: .int .i64 m_1.f_A.e7 :: .int .i64 m_1.f_A.e8 :: .int .i64 m_1.f_A.e9 :: .int .i64 m_1.f_A.e10 :: .int .i64 m_1.f_A.e11 :: .int .i64 m_1.f_A.e12 :: .int .i64 m_1.f_A.e13 :: .int .i64 m_1.f_A.e14 :: .int .i64 m_1.f_A.e15 :: .int .i64 m_1.f_A.e16 :: .int .i64 m_1.f_A.e17 :: .int .i64 m_1.f_A.e18 :: .int .i64 m_1.f_A.e19 :: .int .i64 m_1.f_A.e20 :: .int .i64 m_1.f_A.e21 :: .int .i64 m_1.f_A.e22 :: .int .i64 m_1.f_A.e23 :: .int .i64 m_1.f_A.e24 :: .int .i64 m_1.f_A.e25 :: .int .i64 m_1.f_A.e26 :: .int .i64 m_1.f_A.e27 :: .int .i64 m_1.f_A.e28 :: .int .i64 m_1.f_A.e29 :: .int .i64 m_1.f_A.e30 :: .int .i64 m_1.f_A.e31 :: .int .i64 m_1.f_A.e32 :: .int .i64 m_1.f_A.e33 :: .int .i64 m_1.f_A.e34 :: .int .i64 m_1.f_A.e35 :: [])⟩) sz75 rfl rfl rfl rfl rfl (oc rfl (oc rfl (oc rfl (oc rfl (oc rfl (oc rfl (oc rfl (oc rfl (oc rfl (oc rfl (oc rfl (oc rfl (oc rfl (oc rfl (oc rfl (oc rfl (oc rfl (oc rfl (oc rfl (oc rfl (oc rfl (oc rfl (oc rfl (oc rfl (oc rfl (oc rfl (oc rfl (oc rfl (oc rfl (oc rfl (oc rfl (oc rfl (oc rfl (oc rfl (oc rfl (oc rfl (oc rfl (oc rfl oz)))))))))))))))))))))))))))))))))))))) .h1 (.here (.here (.here (.here (.here (.here (.here (.here (.here (.here (.here (.here (.here (.here (.here (.here (.here (.here (.here (.here (.here (.here (.here (.here (.here (.here (.here (.here (.here (.here (.here (.here (.here (.here u4)))))))))))))))))))))))))))))))))) <| wA (errV 104 none) rfl rfl <| Qb ?_
  obtain rfl := sj he
  refine Ql fn_90 rs_90 (.box (v := .agg ⟨(.int .i64 m_1.f_Rows :: .int .i64 m_1.f_Cols :: .int .i64 m_1.f_A.e0 :: .int .i64 m_1.f_A.e1 :: .int .i64 m_1.f_A.e2 :: .int .i64 m_1.f_A.e3 :: .int .i64 m_1.f_A.e4 :: .int .i64 m_1.f_A.e5 :: .int .i64 m_1.f_A.e6 :: .int .i64 m_1.f_A.e7 :: .int .i64 m_1.f_A.e8 :: .int .i64 m_1.f_A.e9 :: .int .i64 m_1.f_A.e10 :: .int .i64 m_1.f_A.e11 :: .int .i64 m_1.f_A.e12 :: .int .i64 m_1.f_A.e13 :: .int .i64 m_1.f_A.e14 :: .int .i64 m_1.f_A.e15 :: .int .i64 m_1.f_A.e16 :: .int .i64 m_1.f_A.e17 :: .int .i64 m_1.f_A.e18 :: .int .i64 m_1.f_A.e19 :: .int .i64 m_1.f_A.e20 :: .int .i64 m_1.f_A.e21 :: .int .i64 m_1.f_A.e22 :: .int .i64 m_1.f_A.e23 :: .int .i64 m_1.f_A.e24 :: .int .i64 m_1.f_A.e25 :: .int .i64 m_1.f_A.e26 :: .int .i64 m_1.f_A.e27 :: .int .i64 m_1.f_A.e28 :: .int .i64 m_1.f_A.e29 :: .int .i64 m_1.f_A.e30 :: .int .i64 m_1.f_A.e31 :: .int .i64 m_1.f_A.e32 :: .int .i64 m_1.f_A.e33 :: .int .i64 m_1.f_A.e34 :: .int .i64 m_1.f_A.e35 :: [])⟩) rfl ty75 rfl rfl .h1 rfl (.tmp (v := errV 104 none) rfl .nil)) <| ⟨⟨[_, _], rfl⟩, hle, rfl⟩
theorem XH.ok : ∀ k, XH.OK (XH.hs k)
 | 0 => ⟨(by intros; exact nomatch (show none = some _ from by assumption))⟩
 | k + 1 => ⟨XH.b0_ok (k := k) (XH.ok k)⟩
theorem XH.calls (k : Nat) {H : Hp} {L : Items} {rows : List (List Int)} {v0_rows : Value} {r : X9 × (Option Int)} (he : XH.f k rows = some r) (h0_rows : Src (Kd.slice kI64) H L v0_rows rows) : Ct Tryz.prog 90 ⟨[v0_rows]⟩ H L (fun v H' L' => L = L' ∧ H = H' ∧ v = .tuple ⟨[.agg ⟨(.int .i64 r.1.f_Rows :: .int .i64 r.1.f_Cols :: .int .i64 r.1.f_A.e0 :: .int .i64 r.1.f_A.e1 :: .int .i64 r.1.f_A.e2 :: .int .i64 r.1.f_A.e3 :: .int .i64 r.1.f_A.e4 :: .int .i64 r.1.f_A.e5 :: .int .i64 r.1.f_A.e6 :: .int .i64 r.1.f_A.e7 :: .int .i64 r.1.f_A.e8 :: .int .i64 r.1.f_A.e9 :: .int .i64 r.1.f_A.e10 :: .int .i64 r.1.f_A.e11 :: .int .i64 r.1.f_A.e12 :: .int .i64 r.1.f_A.e13 :: .int .i64 r.1.f_A.e14 :: .int .i64 r.1.f_A.e15 :: .int .i64 r.1.f_A.e16 :: .int .i64 r.1.f_A.e17 :: .int .i64 r.1.f_A.e18 :: .int .i64 r.1.f_A.e19 :: .int .i64 r.1.f_A.e20 :: .int .i64 r.1.f_A.e21 :: .int .i64 r.1.f_A.e22 :: .int .i64 r.1.f_A.e23 :: .int .i64 r.1.f_A.e24 :: .int .i64 r.1.f_A.e25 :: .int .i64 r.1.f_A.e26 :: .int .i64 r.1.f_A.e27 :: .int .i64 r.1.f_A.e28 :: .int .i64 r.1.f_A.e29 :: .int .i64 r.1.f_A.e30 :: .int .i64 r.1.f_A.e31 :: .int .i64 r.1.f_A.e32 :: .int .i64 r.1.f_A.e33 :: .int .i64 r.1.f_A.e34 :: .int .i64 r.1.f_A.e35 :: [])⟩, errV 104 r.2]⟩) := by
 refine Yp (O := XH.out r) (fun _ _ h => h) ?_
 have hle : H.le H := .refl _
 have hh := XH.ok k
 unfold XH.f at he
 refine QV (args := [_]) fn_90 rfl nt_90 rfl <| wR rfl <| wN zr75 rfl rfl fun b1 => wA (errV 104 none) rfl rfl <| wE <| wR rfl <| wM v0_rows rfl rfl <| w_d rfl (Xo Tryz.underlying71 rfl h0_rows.th) <| bK he fun y2 hy3 he => ?_
 refine w_d rfl (Xx (Qm co133 (vs := [.int .i64 (rows.length : Int)]) rfl (Ys.calls k hy3))) <| w_d rfl (Zs (b := y2) rfl) <| wM (.bool (!y2)) rfl rfl <| w_g (g := !(!y2)) rfl rfl rfl wn_f (fun g6 => QT (v := v0_rows) rfl) <| rK he fun c8 he => w_g (g := !(!y2)) rfl rfl rfl wn_f (fun g7 => XA (sz := 1) Tryz.underlying71 sz72 (cvt g7) h0_rows.th rfl (c8 g7)) ?_
 obtain ⟨v11, l10, h12⟩ : ∃ v11 : Value, ((!(!y2)) = true → Lies H L (pel v0_rows 0 1) [v11]) ∧ ((!(!y2)) = true → Ro kI64 H v11 (rd rows 0)) := if g_ : (!(!y2)) = true then (by obtain ⟨_, l_, r_⟩ := Zp (kd := (Kd.slice kI64)) h0_rows (c8 g_); obtain ⟨v11, rfl, h12⟩ := r_; exact ⟨v11, fun _ => l_, fun _ => h12⟩) else ⟨undef, fun h_ => absurd h_ g_, fun h_ => absurd h_ g_⟩
 refine w_g (g := !(!y2)) rfl rfl rfl wn_f (fun g9 => YU (v := v11) (cs := [v11]) ty72 (cvt g9) rfl (by decide) ((l10 g9)).th rfl) <| w_g (g := !(!y2)) rfl rfl rfl wn_f (fun g13 => Xo Tryz.underlying72 (cvt g13) (h12 g13).src) <| bK he fun y15 hy16 he => w_g (g := !(!y2)) rfl rfl rfl wn_f (fun g14 => Xx (Qm co133 (vs := [.int .i64 ((rd rows 0).length : Int)]) (acons (cvt g14) (anil)) (Ys.calls k (gd_t g14 hy16)))) <| w_g (g := !(!y2)) rfl rfl rfl wn_f (fun g19 => Zs (b := y15) (cvt g19)) <| w_d rfl (d_or' (b := (!y2)) (p := (!y15)) rfl rfl rfl) <| Qb ?_
 rcases its he with ⟨c20, he⟩ | ⟨c20, he⟩
 ·
  refine QD rfl c20 <| wR rfl <| w_d rfl (XE (cs' := (.int .i64 0 :: .int .i64 0 :: .int .i64 0 :: .int .i64 0 :: .int .i64 0 :: .int .i64 0 :: .int .i64 0 :: .int .i64 0 :: .int .i64 0 :: .int .i64 0 :: .int .i64 0 :: .int .i64 0 :: .int .i64 0 :: .int .i64 0 :: .int .i64 0 :: .int .i64 0 :: .int .i64 0 :: .int .i64 0 :: .int .i64 0 :: .int .i64 0 :: .int .i64 0 :: .int .i64 0 :: .int .i64 0 :: .int .i64 0 :: .int .i64 0 :: .int .i64 0 :: .int .i64 0 :: .int .i64 0 :: .int .i64 0 :: .int .i64 0 :: .int .i64 0 :: .int .i64 0 :: .int .i64 0 :: .int .i64 0 :: .int .i64 0 :: .int .i64 0 :: .int .i64 0 :: .int .i64 0 :: [])) Tryz.underlying75 zr75 rfl (by kernel_rfl) (parts := []) rfl .nil) <| w_d rfl (Zf (v := .int .i64 1) Tryz.underlying104 rfl rfl) <| wS (.agg ⟨(.int .i64 0 :: .int .i64 0 :: .int .i64 0 :: .int .i64 0 :: .int .i64 0 :: .int .i64 0 :: .int .i64 0 :: .int .i64 0 :: .int .i64 0 :: .int .i64 0 :: .int .i64 0 :: .int .i64 0 :: .int .i64 0 :: .int .i64 0 :: .int .i64 0 :: .int .i64 0 :: .int .i64 0 :: .int .i64 0 :: .int .i64 0 :: .int .i64 0 :: .int .i64 0 :: .int .i64 0 :: .int .i64 0 :: .int .i64 0 :: .int .i64 0 :: .int .i64 0 :: .int .i64 0 :: .int .i64 0 :: .int .i64 0 :: .int .i64 0 :: .int .i64 0 :: .int .i64 0 :: .int .i64 0 :: .int .i64 0 :: .int .i64 0 :: .int .i64 0 :: .int .i64 0 :: .int .i64 0 :: [])⟩) sz75 rfl rfl rfl rfl rfl (oc rfl (oc rfl (oc rfl (oc rfl (oc rfl (oc rfl (oc rfl (oc rfl (oc rfl (oc rfl (oc rfl (oc rfl (oc rfl (oc rfl (oc rfl (oc rfl (oc rfl (oc rfl (oc rfl (oc rfl (oc rfl (oc rfl (oc rfl (oc rfl (oc rfl (oc rfl (oc rfl (oc rfl (oc rfl (oc rfl (oc rfl (oc rfl (oc rfl (oc rfl (oc rfl (oc rfl (oc rfl (oc rfl oz)))))))))))))))))))))))))))))))))))))) .here (.here (.here (.here (.here (.here (.here (.here (.here (.here (.here (.here (.here (.here (.here (.here (.here (.here (.here (.here (.here (.here (.here (.here (.here (.here (.here (.here (.here (.here (.here (.here (.here (.here (.here u4)))))))))))))))))))))))))))))))))) <| wA (errV 104 (some 1)) rfl rfl <| Qb ?_
  obtain rfl := sj he
  refine Ql fn_90 rs_90 (.box (v := .agg ⟨(.int .i64 0 :: .int .i64 0 :: .int .i64 0 :: .int .i64 0 :: .int .i64 0 :: .int .i64 0 :: .int .i64 0 :: .int .i64 0 :: .int .i64 0 :: .int .i64 0 :: .int .i64 0 :: .int .i64 0 :: .int .i64 0 :: .int .i64 0 :: .int .i64 0 :: .int .i64 0 :: .int .i64 0 :: .int .i64 0 :: .int .i64 0 :: .int .i64 0 :: .int .i64 0 :: .int .i64 0 :: .int .i64 0 :: .int .i64 0 :: .int .i64 0 :: .int .i64 0 :: .int .i64 0 :: .int .i64 0 :: .int .i64 0 :: .int .i64 0 :: .int .i64 0 :: .int .i64 0 :: .int .i64 0 :: .int .i64 0 :: .int .i64 0 :: .int .i64 0 :: .int .i64 0 :: .int .i64 0 :: [])⟩) rfl ty75 rfl rfl .here rfl (.tmp (v := errV 104 (some 1)) rfl .nil)) <| ⟨⟨[_], rfl⟩, hle, rfl⟩
 ·
  refine QE rfl (Bool.eq_false_iff.2 c20) <| QF <| wR rfl <| wM v0_rows rfl rfl <| w_d rfl (Xo Tryz.underlying71 rfl h0_rows.th) <| wM v0_rows rfl rfl <| rK he fun c21 he => w_d rfl (XA (sz := 1) Tryz.underlying71 sz72 rfl h0_rows.th rfl c21) ?_
  obtain ⟨_, l22, r23⟩ := Zp (kd := (Kd.slice kI64)) h0_rows.th c21
  obtain ⟨v24, rfl, h25⟩ := r23
  refine w_d rfl (YU (v := v24) (cs := [v24]) ty72 rfl rfl (by decide) l22 rfl) <| w_d rfl (Xo Tryz.underlying72 rfl h25.src) <| w_d rfl (XE (cs' := (.int .i64 (rows.length : Int) :: .int .i64 ((rd rows 0).length : Int) :: .int .i64 0 :: .int .i64 0 :: .int .i64 0 :: .int .i64 0 :: .int .i64 0 :: .int .i64 0 :: .int .i64 0 :: .int .i64 0 :: .int .i64 0 :: .int .i64 0 :: .int .i64 0 :: .int .i64 0 :: .int .i64 0 :: .int .i64 0 :: .int .i64 0 :: .int .i64 0 :: .int .i64 0 :: .int .i64 0 :: .int .i64 0 :: .int .i64 0 :: .int .i64 0 :: .int .i64 0 :: .int .i64 0 :: .int .i64 0 :: .int .i64 0 :: .int .i64 0 :: .int .i64 0 :: .int .i64 0 :: .int .i64 0 :: .int .i64 0 :: .int .i64 0 :: .int .i64 0 :: .int .i64 0 :: .int .i64 0 :: .int .i64 0 :: .int .i64 0 :: [])) Tryz.underlying75 zr75 rfl (by kernel_rfl) (parts := [(0, .int .i64 (rows.length : Int)), (1, .int .i64 ((rd rows 0).length : Int))]) rfl (.cons (YH rfl sz3 rfl) rfl rfl u1 (.cons (YH rfl sz3 rfl) rfl rfl (.there u1) .nil))) <| wN zr75 rfl rfl fun b26 => wS (.agg ⟨(.int .i64 (rows.length : Int) :: .int .i64 ((rd rows 0).length : Int) :: .int .i64 0 :: .int .i64 0 :: .int .i64 0 :: .int .i64 0 :: .int .i64 0 :: .int .i64 0 :: .int .i64 0 :: .int .i64 0 :: .int .i64 0 :: .int .i64 0 :: .int .i64 0 :: .int .i64 0 :: .int .i64 0 :: .int .i64 0 :: .int .i64 0 :: .int .i64 0 :: .int .i64 0 :: .int .i64 0 :: .int .i64 0 :: .int .i64 0 :: .int .i64 0 :: .int .i64 0 :: .int .i64 0 :: .int .i64 0 :: .int .i64 0 :: .int .i64 0 :: .int .i64 0 :: .int .i64 0 :: .int .i64 0 :: .int .i64 0 :: .int .i64 0 :: .int .i64 0 :: .int .i64 0 :: .int .i64 0 :: .int .i64 0 :: .int .i64 0 :: [])⟩) sz75 rfl rfl rfl rfl rfl (oc rfl (oc rfl (oc rfl (oc rfl (oc rfl (oc rfl (oc rfl (oc rfl (oc rfl (oc rfl (oc rfl (oc rfl (oc rfl (oc rfl (oc rfl (oc rfl (oc rfl (oc rfl (oc rfl (oc rfl (oc rfl (oc rfl (oc rfl (oc rfl (oc rfl (oc rfl (oc rfl (oc rfl (oc rfl (oc rfl (oc rfl (oc rfl (oc rfl (oc rfl (oc rfl (oc rfl (oc rfl (oc rfl oz)))))))))))))))))))))))))))))))))))))) .here (.here (.here (.here (.here (.here (.here (.here (.here (.here (.here (.here (.here (.here (.here (.here (.here (.here (.here (.here (.here (.here (.here (.here (.here (.here (.here (.here (.here (.here (.here (.here (.here (.here (.here u4)))))))))))))))))))))))))))))))))) <| wE <| wR rfl <| wM v0_rows rfl rfl <| w_d rfl (Xo Tryz.underlying71 rfl h0_rows.th.th) <| wM (.int .i64 0) rfl rfl ?_
  refine Qb <| Q2 <| X5 <| w_sl 2 (pt b1) rfl <| w_sl 3 (errV 104 none) rfl <| w_sl 4 (pt b26) rfl <| w_sl 28 (v0_rows) rfl <| w_sl 29 (.int .i64 (rows.length : Int)) rfl <| w_sl 30 (.int .i64 0) rfl <| hh.l0 hle he h0_rows
noncomputable def X4.C : Code := (Tryz.f39.body).getD .skip
def X4.out (r : X9) (H : Hp) (v : Value) : Prop := v = .agg ⟨(.int .i64 r.f_Rows :: .int .i64 r.f_Cols :: .int .i64 r.f_A.e0 :: .int .i64 r.f_A.e1 :: .int .i64 r.f_A.e2 :: .int .i64 r.f_A.e3 :: .int .i64 r.f_A.e4 :: .int .i64 r.f_A.e5 :: .int .i64 r.f_A.e6 :: .int .i64 r.f_A.e7 :: .int .i64 r.f_A.e8 :: .int .i64 r.f_A.e9 :: .int .i64 r.f_A.e10 :: .int .i64 r.f_A.e11 :: .int .i64 r.f_A.e12 :: .int .i64 r.f_A.e13 :: .int .i64 r.f_A.e14 :: .int .i64 r.f_A.e15 :: .int .i64 r.f_A.e16 :: .int .i64 r.f_A.e17 :: .int .i64 r.f_A.e18 :: .int .i64 r.f_A.e19 :: .int .i64 r.f_A.e20 :: .int .i64 r.f_A.e21 :: .int .i64 r.f_A.e22 :: .int .i64 r.f_A.e23 :: .int .i64 r.f_A.e24 :: .int .i64 r.f_A.e25 :: .int .i64 r.f_A.e26 :: .int .i64 r.f_A.e27 :: .int .i64 r.f_A.e28 :: .int .i64 r.f_A.e29 :: .int .i64 r.f_A.e30 :: .int .i64 r.f_A.e31 :: .int .i64 r.f_A.e32 :: .int .i64 r.f_A.e33 :: .int .i64 r.f_A.e34 :: .int .i64 r.f_A.e35 :: [])⟩
noncomputable def X4.f (k : Nat) (rows : List (List Int)) : Option X9 := (XH.f k rows).bind fun y2 => if y2.2.isSome = true then (some (⟨0, 0, ⟨0, 0, 0, 0, 0, 0, 0, 0, 0, 0, 0, 0, 0, 0, 0, 0, 0, 0, 0, 0, 0, 0, 0, 0, 0, 0, 0, 0, 0, 0, 0, 0, 0, 0, 0, 0⟩⟩)) else (some (y2.1))
theorem X4.mono : ∀ k y0, LeO (X4.f k y0) (X4.f (k + 1) y0) := fun k _ => by unfold X4.f; exact (LeO.bind (XH.mono k _) fun _ => LeO.ite (LeO.refl _) (LeO.refl _))
theorem X4.calls (k : Nat) {H : Hp} {L : Items} {rows : List (List Int)} {v0_rows : Value} {r : X9} (he : X4.f k rows = some r) (h0_rows : Src (Kd.slice kI64) H L v0_rows rows) : Ct Tryz.prog 39 ⟨[v0_rows]⟩ H L (fun v H' L' => L = L' ∧ H = H' ∧ v = .agg ⟨(.int .i64 r.f_Rows :: .int .i64 r.f_Cols :: .int .i64 r.f_A.e0 :: .int .i64 r.f_A.e1 :: .int .i64 r.f_A.e2 :: .int .i64 r.f_A.e3 :: .int .i64 r.f_A.e4 :: .int .i64 r.f_A.e5 :: .int .i64 r.f_A.e6 :: .int .i64 r.f_A.e7 :: .int .i64 r.f_A.e8 :: .int .i64 r.f_A.e9 :: .int .i64 r.f_A.e10 :: .int .i64 r.f_A.e11 :: .int .i64 r.f_A.e12 :: .int .i64 r.f_A.e13 :: .int .i64 r.f_A.e14 :: .int .i64 r.f_A.e15 :: .int .i64 r.f_A.e16 :: .int .i64 r.f_A.e17 :: .int .i64 r.f_A.e18 :: .int .i64 r.f_A.e19 :: .int .i64 r.f_A.e20 :: .int .i64 r.f_A.e21 :: .int .i64 r.f_A.e22 :: .int .i64 r.f_A.e23 :: .int .i64 r.f_A.e24 :: .int .i64 r.f_A.e25 :: .int .i64 r.f_A.e26 :: .int .i64 r.f_A.e27 :: .int .i64 r.f_A.e28 :: .int .i64 r.f_A.e29 :: .int .i64 r.f_A.e30 :: .int .i64 r.f_A.e31 :: .int .i64 r.f_A.e32 :: .int .i64 r.f_A.e33 :: .int .i64 r.f_A.e34 :: .int .i64 r.f_A.e35 :: [])⟩) := by
 refine Yp (O := X4.out r) (fun _ _ h => h) ?_
 have hle : H.le H := .refl _
 unfold X4.f at he
 refine QV (args := [_]) fn_39 rfl nt_39 rfl <| wR rfl <| wN zr75 rfl rfl fun b1 => wQ rfl <| wM v0_rows rfl rfl <| bK he fun y2 hy3 he => w_d rfl (Xx (Qm co90 (vs := [v0_rows]) rfl (XH.calls k hy3 h0_rows.th))) <| wM (.tuple ⟨[.agg ⟨(.int .i64 y2.1.f_Rows :: .int .i64 y2.1.f_Cols :: .int .i64 y2.1.f_A.e0 :: .int .i64 y2.1.f_A.e1 :: .int .i64 y2.1.f_A.e2 :: .int .i64 y2.1.f_A.e3 :: .int .i64 y2.1.f_A.e4 :: .int .i64 y2.1.f_A.e5 :: .int .i64 y2.1.f_A.e6 :: .int .i64 y2.1.f_A.e7 :: .int .i64 y2.1.f_A.e8 :: .int .i64 y2.1.f_A.e9 :: .int .i64 y2.1.f_A.e10 :: .int .i64 y2.1.f_A.e11 :: .int .i64 y2.1.f_A.e12 :: .int .i64 y2.1.f_A.e13 :: .int .i64 y2.1.f_A.e14 :: .int .i64 y2.1.f_A.e15 :: .int .i64 y2.1.f_A.e16 :: .int .i64 y2.1.f_A.e17 :: .int .i64 y2.1.f_A.e18 :: .int .i64 y2.1.f_A.e19 :: .int .i64 y2.1.f_A.e20 :: .int .i64 y2.1.f_A.e21 :: .int .i64 y2.1.f_A.e22 :: .int .i64 y2.1.f_A.e23 :: .int .i64 y2.1.f_A.e24 :: .int .i64 y2.1.f_A.e25 :: .int .i64 y2.1.f_A.e26 :: .int .i64 y2.1.f_A.e27 :: .int .i64 y2.1.f_A.e28 :: .int .i64 y2.1.f_A.e29 :: .int .i64 y2.1.f_A.e30 :: .int .i64 y2.1.f_A.e31 :: .int .i64 y2.1.f_A.e32 :: .int .i64 y2.1.f_A.e33 :: .int .i64 y2.1.f_A.e34 :: .int .i64 y2.1.f_A.e35 :: [])⟩, errV 104 y2.2]⟩) rfl rfl <| w_d rfl (Q5 rfl rfl) ?_
 refine w_d rfl (Q5 rfl rfl) <| wN zr75 rfl rfl fun b6 => wS (.agg ⟨(.int .i64 y2.1.f_Rows :: .int .i64 y2.1.f_Cols :: .int .i64 y2.1.f_A.e0 :: .int .i64 y2.1.f_A.e1 :: .int .i64 y2.1.f_A.e2 :: .int .i64 y2.1.f_A.e3 :: .int .i64 y2.1.f_A.e4 :: .int .i64 y2.1.f_A.e5 :: .int .i64 y2.1.f_A.e6 :: .int .i64 y2.1.f_A.e7 :: .int .i64 y2.1.f_A.e8 :: .int .i64 y2.1.f_A.e9 :: .int .i64 y2.1.f_A.e10 :: .int .i64 y2.1.f_A.e11 :: .int .i64 y2.1.f_A.e12 :: .int .i64 y2.1.f_A.e13 :: .int .i64 y2.1.f_A.e14 :: .int .i64 y2.1.f_A.e15 :: .int .i64 y2.1.f_A.e16 :: .int .i64 y2.1.f_A.e17 :: .int .i64 y2.1.f_A.e18 :: .int .i64 y2.1.f_A.e19 :: .int .i64 y2.1.f_A.e20 :: .int .i64 y2.1.f_A.e21 :: .int .i64 y2.1.f_A.e22 :: .int .i64 y2.1.f_A.e23 :: .int .i64 y2.1.f_A.e24 :: .int .i64 y2.1.f_A.e25 :: .int .i64 y2.1.f_A.e26 :: .int .i64 y2.1.f_A.e27 :: .int .i64 y2.1.f_A.e28 :: .int .i64 y2.1.f_A.e29 :: .int .i64 y2.1.f_A.e30 :: .int .i64 y2.1.f_A.e31 :: .int .i64 y2.1.f_A.e32 :: .int .i64 y2.1.f_A.e33 :: .int .i64 y2.1.f_A.e34 :: .int .i64 y2.1.f_A.e35 :: [])⟩) sz75 rfl rfl rfl rfl rfl (oc rfl (oc rfl (oc rfl (oc rfl (oc rfl (oc rfl (oc rfl (oc rfl (oc rfl (oc rfl (oc rfl (oc rfl (oc rfl (oc rfl (oc rfl (oc rfl (oc rfl (oc rfl (oc rfl (oc rfl (oc rfl (oc rfl (oc rfl (oc rfl (oc rfl (oc rfl (oc rfl (oc rfl (oc rfl (oc rfl (oc rfl (oc rfl (oc rfl (oc rfl (oc rfl (oc rfl (oc rfl (oc rfl oz)))))))))))))))))))))))))))))))))))))) .here (.here (.here (.here (.here (.here (.here (.here (.here (.here (.here (.here (.here (.here (.here (.here (.here (.here (.here (.here (.here (.here (.here (.here (.here (.here (.here (.here (.here (.here (.here (.here (.here (.here (.here u4)))))))))))))))))))))))))))))))))) <| wA (errV 104 y2.2) rfl rfl <| wE <| wR rfl <| wM (errV 104 y2.2) rfl rfl <| w_d rfl (Yj (e := y2.2) Tryz.underlying30 rfl) <| Qb ?_
 rcases its he with ⟨c7, he⟩ | ⟨c7, he⟩
 ·
  refine QD rfl c7 <| wR rfl <| w_d rfl (XE (cs' := (.int .i64 0 :: .int .i64 0 :: .int .i64 0 :: .int .i64 0 :: .int .i64 0 :: .int .i64 0 :: .int .i64 0 :: .int .i64 0 :: .int .i64 0 :: .int .i64 0 :: .int .i64 0 :: .int .i64 0 :: .int .i64 0 :: .int .i64 0 :: .int .i64 0 :: .int .i64 0 :: .int .i64 0 :: .int .i64 0 :: .int .i64 0 :: .int .i64 0 :: .int .i64 0 :: .int .i64 0 :: .int .i64 0 :: .int .i64 0 :: .int .i64 0 :: .int .i64 0 :: .int .i64 0 :: .int .i64 0 :: .int .i64 0 :: .int .i64 0 :: .int .i64 0 :: .int .i64 0 :: .int .i64 0 :: .int .i64 0 :: .int .i64 0 :: .int .i64 0 :: .int .i64 0 :: .int .i64 0 :: [])) Tryz.underlying75 zr75 rfl (by kernel_rfl) (parts := []) rfl .nil) <| wS (.agg ⟨(.int .i64 0 :: .int .i64 0 :: .int .i64 0 :: .int .i64 0 :: .int .i64 0 :: .int .i64 0 :: .int .i64 0 :: .int .i64 0 :: .int .i64 0 :: .int .i64 0 :: .int .i64 0 :: .int .i64 0 :: .int .i64 0 :: .int .i64 0 :: .int .i64 0 :: .int .i64 0 :: .int .i64 0 :: .int .i64 0 :: .int .i64 0 :: .int .i64 0 :: .int .i64 0 :: .int .i64 0 :: .int .i64 0 :: .int .i64 0 :: .int .i64 0 :: .int .i64 0 :: .int .i64 0 :: .int .i64 0 :: .int .i64 0 :: .int .i64 0 :: .int .i64 0 :: .int .i64 0 :: .int .i64 0 :: .int .i64 0 :: .int .i64 0 :: .int .i64 0 :: .int .i64 0 :: .int .i64 0 :: [])⟩) sz75 rfl rfl rfl rfl rfl (oc rfl (oc rfl (oc rfl (oc rfl (oc rfl (oc rfl (oc rfl (oc rfl (oc rfl (oc rfl (oc rfl (oc rfl (oc rfl (oc rfl (oc rfl (oc rfl (oc rfl (oc rfl (oc rfl (oc rfl (oc rfl (oc rfl (oc rfl (oc rfl (oc rfl (oc rfl (oc rfl (oc rfl (oc rfl (oc rfl (oc rfl (oc rfl (oc rfl (oc rfl (oc rfl (oc rfl (oc rfl (oc rfl oz)))))))))))))))))))))))))))))))))))))) .h1 (.here (.here (.here (.here (.here (.here (.here (.here (.here (.here (.here (.here (.here (.here (.here (.here (.here (.here (.here (.here (.here (.here (.here (.here (.here (.here (.here (.here (.here (.here (.here (.here (.here (.here u4)))))))))))))))))))))))))))))))))) <| Qb ?_
  obtain rfl := sj he
  refine Ql fn_39 rs_39 (.box (v := .agg ⟨(.int .i64 0 :: .int .i64 0 :: .int .i64 0 :: .int .i64 0 :: .int .i64 0 :: .int .i64 0 :: .int .i64 0 :: .int .i64 0 :: .int .i64 0 :: .int .i64 0 :: .int .i64 0 :: .int .i64 0 :: .int .i64 0 :: .int .i64 0 :: .int .i64 0 :: .int .i64 0 :: .int .i64 0 :: .int .i64 0 :: .int .i64 0 :: .int .i64 0 :: .int .i64 0 :: .int .i64 0 :: .int .i64 0 :: .int .i64 0 :: .int .i64 0 :: .int .i64 0 :: .int .i64 0 :: .int .i64 0 :: .int .i64 0 :: .int .i64 0 :: .int .i64 0 :: .int .i64 0 :: .int .i64 0 :: .int .i64 0 :: .int .i64 0 :: .int .i64 0 :: .int .i64 0 :: .int .i64 0 :: [])⟩) rfl ty75 rfl rfl .h1 rfl .nil) <| ⟨⟨[_, _], rfl⟩, hle, rfl⟩
 ·
  refine QE rfl (Bool.eq_false_iff.2 c7) <| QF <| wR rfl <| wL (.agg ⟨(.int .i64 y2.1.f_Rows :: .int .i64 y2.1.f_Cols :: .int .i64 y2.1.f_A.e0 :: .int .i64 y2.1.f_A.e1 :: .int .i64 y2.1.f_A.e2 :: .int .i64 y2.1.f_A.e3 :: .int .i64 y2.1.f_A.e4 :: .int .i64 y2.1.f_A.e5 :: .int .i64 y2.1.f_A.e6 :: .int .i64 y2.1.f_A.e7 :: .int .i64 y2.1.f_A.e8 :: .int .i64 y2.1.f_A.e9 :: .int .i64 y2.1.f_A.e10 :: .int .i64 y2.1.f_A.e11 :: .int .i64 y2.1.f_A.e12 :: .int .i64 y2.1.f_A.e13 :: .int .i64 y2.1.f_A.e14 :: .int .i64 y2.1.f_A.e15 :: .int .i64 y2.1.f_A.e16 :: .int .i64 y2.1.f_A.e17 :: .int .i64 y2.1.f_A.e18 :: .int .i64 y2.1.f_A.e19 :: .int .i64 y2.1.f_A.e20 :: .int .i64 y2.1.f_A.e21 :: .int .i64 y2.1.f_A.e22 :: .int .i64 y2.1.f_A.e23 :: .int .i64 y2.1.f_A.e24 :: .int .i64 y2.1.f_A.e25 :: .int .i64 y2.1.f_A.e26 :: .int .i64 y2.1.f_A.e27 :: .int .i64 y2.1.f_A.e28 :: .int .i64 y2.1.f_A.e29 :: .int .i64 y2.1.f_A.e30 :: .int .i64 y2.1.f_A.e31 :: .int .i64 y2.1.f_A.e32 :: .int .i64 y2.1.f_A.e33 :: .int .i64 y2.1.f_A.e34 :: .int .i64 y2.1.f_A.e35 :: [])⟩) ty75 rfl rfl .here rfl rfl <| wS (.agg ⟨(.int .i64 y2.1.f_Rows :: .int .i64 y2.1.f_Cols :: .int .i64 y2.1.f_A.e0 :: .int .i64 y2.1.f_A.e1 :: .int .i64 y2.1.f_A.e2 :: .int .i64 y2.1.f_A.e3 :: .int .i64 y2.1.f_A.e4 :: .int .i64 y2.1.f_A.e5 :: .int .i64 y2.1.f_A.e6 :: .int .i64 y2.1.f_A.e7 :: .int .i64 y2.1.f_A.e8 :: .int .i64 y2.1.f_A.e9 :: .int .i64 y2.1.f_A.e10 :: .int .i64 y2.1.f_A.e11 :: .int .i64 y2.1.f_A.e12 :: .int .i64 y2.1.f_A.e13 :: .int .i64 y2.1.f_A.e14 :: .int .i64 y2.1.f_A.e15 :: .int .i64 y2.1.f_A.e16 :: .int .i64 y2.1.f_A.e17 :: .int .i64 y2.1.f_A.e18 :: .int .i64 y2.1.f_A.e19 :: .int .i64 y2.1.f_A.e20 :: .int .i64 y2.1.f_A.e21 :: .int .i64 y2.1.f_A.e22 :: .int .i64 y2.1.f_A.e23 :: .int .i64 y2.1.f_A.e24 :: .int .i64 y2.1.f_A.e25 :: .int .i64 y2.1.f_A.e26 :: .int .i64 y2.1.f_A.e27 :: .int .i64 y2.1.f_A.e28 :: .int .i64 y2.1.f_A.e29 :: .int .i64 y2.1.f_A.e30 :: .int .i64 y2.1.f_A.e31 :: .int .i64 y2.1.f_A.e32 :: .int .i64 y2.1.f_A.e33 :: .int .i64 y2.1.f_A.e34 :: .int .i64 y2.1.f_A.e35 :: [])⟩) sz75 rfl rfl rfl rfl rfl (oc rfl (oc rfl (oc rfl (oc rfl (oc rfl (oc rfl (oc rfl (oc rfl (oc rfl (oc rfl (oc rfl (oc rfl (oc rfl (oc rfl (oc rfl (oc rfl (oc rfl (oc rfl (oc rfl (oc rfl (oc rfl (oc rfl (oc rfl (oc rfl (oc rfl (oc rfl (oc rfl (oc rfl (oc rfl (oc rfl (oc rfl (oc rfl (oc rfl (oc rfl (oc rfl (oc rfl (oc rfl (oc rfl oz)))))))))))))))))))))))))))))))))))))) .h1 (.here (.here (.here (.here (.here (.here (.here (.here (.here (.here (.here (.here (.here (.here (.here (.here (.here (.here (.here (.here (.here (.here (.here (.here (.here (.here (.here (.here (.here (.here (.here (.here (.here (.here u4)))))))))))))))))))))))))))))))))) <| Qb ?_
  obtain rfl := sj he
  refine Ql fn_39 rs_39 (.box (v := .agg ⟨(.int .i64 y2.1.f_Rows :: .int .i64 y2.1.f_Cols :: .int .i64 y2.1.f_A.e0 :: .int .i64 y2.1.f_A.e1 :: .int .i64 y2.1.f_A.e2 :: .int .i64 y2.1.f_A.e3 :: .int .i64 y2.1.f_A.e4 :: .int .i64 y2.1.f_A.e5 :: .int .i64 y2.1.f_A.e6 :: .int .i64 y2.1.f_A.e7 :: .int .i64 y2.1.f_A.e8 :: .int .i64 y2.1.f_A.e9 :: .int .i64 y2.1.f_A.e10 :: .int .i64 y2.1.f_A.e11 :: .int .i64 y2.1.f_A.e12 :: .int .i64 y2.1.f_A.e13 :: .int .i64 y2.1.f_A.e14 :: .int .i64 y2.1.f_A.e15 :: .int .i64 y2.1.f_A.e16 :: .int .i64 y2.1.f_A.e17 :: .int .i64 y2.1.f_A.e18 :: .int .i64 y2.1.f_A.e19 :: .int .i64 y2.1.f_A.e20 :: .int .i64 y2.1.f_A.e21 :: .int .i64 y2.1.f_A.e22 :: .int .i64 y2.1.f_A.e23 :: .int .i64 y2.1.f_A.e24 :: .int .i64 y2.1.f_A.e25 :: .int .i64 y2.1.f_A.e26 :: .int .i64 y2.1.f_A.e27 :: .int .i64 y2.1.f_A.e28 :: .int .i64 y2.1.f_A.e29 :: .int .i64 y2.1.f_A.e30 :: .int .i64 y2.1.f_A.e31 :: .int .i64 y2.1.f_A.e32 :: .int .i64 y2.1.f_A.e33 :: .int .i64 y2.1.f_A.e34 :: .int .i64 y2.1.f_A.e35 :: [])⟩) rfl ty75 rfl rfl .h1 rfl .nil) <| ⟨⟨[_, _], rfl⟩, hle, rfl⟩
noncomputable def Xd.C : Code := (Tryz.f91.body).getD .skip
def Xd.out (r : (Option Int)) (H : Hp) (v : Value) : Prop := v = errV 104 r
abbrev Xd.R (H0 : Hp) (L : Items) (r : (Option Int)) := fR H0 L (Xd.out r)
structure Xd.Hs where
 l0 : (Option Int) → (List Int) → Int → Int → Option (Option Int)
noncomputable def Xd.b0 (k : Nat) (h : Xd.Hs) (t2 : Option Int) (t22 : List Int) (t23 t24 : Int) : Option (Option Int) := if t24 < t23 then (if (0 : Int) ≤ t24 ∧ t24 < (t22.length : Int) then (if (rd t22 t24) = 0 then (h.l0 t2 t22 t23 (w64 (t24 + 1))) else (some (some 1))) else none) else (some (none))
noncomputable def Xd.hs : Nat → Xd.Hs
 | 0 => ⟨fun _ _ _ _ => none⟩
 | k + 1 => ⟨fun x0 x1 x2 x3 => Xd.b0 k (Xd.hs k) x0 x1 x2 x3⟩
noncomputable def Xd.f (k : Nat) (m : X9) : Option (Option Int) := (fun h : Xd.Hs => (Ys.f k m.f_Rows).bind fun y2 => (gd (!(!y2)) (Ys.f k m.f_Cols) (false)).bind fun y9 => if ((!y2) || (!y9)) = true then (some (some 1)) else (if (0 : Int) ≤ w64 (m.f_Rows * m.f_Cols) ∧ (w64 (m.f_Rows * m.f_Cols) : Int) ≤ 36 ∧ 36 ≤ (36 : Int) then (h.l0 none (cut (T73.toL m.f_A) (w64 (m.f_Rows * m.f_Cols)) 36) ((cut (T73.toL m.f_A) (w64 (m.f_Rows * m.f_Cols)) 36).length : Int) 0) else none)) (Xd.hs k)
structure Xd.LE (h h' : Xd.Hs) : Prop where
 l0 : ∀ y0 y1 y2 y3, LeO (h.l0 y0 y1 y2 y3) (h'.l0 y0 y1 y2 y3)
theorem Xd.b0_mono {k : Nat} {h h' : Xd.Hs} (hl : Xd.LE h h') : ∀ y0 y1 y2 y3, LeO (Xd.b0 k h y0 y1 y2 y3) (Xd.b0 (k + 1) h' y0 y1 y2 y3) := fun _ _ _ _ => (LeO.ite (LeO.ite (LeO.ite (hl.l0 _ _ _ _) (LeO.refl _)) (LeO.refl _)) (LeO.refl _))
theorem Xd.hs_mono : ∀ k, Xd.LE (Xd.hs k) (Xd.hs (k + 1))
 | 0 => ⟨fun _ _ _ _ => LeO.none _⟩
 | k + 1 => ⟨Xd.b0_mono (k := k) (Xd.hs_mono k)⟩
theorem Xd.mono : ∀ k y0, LeO (Xd.f k y0) (Xd.f (k + 1) y0) := fun k _ => have hl := Xd.hs_mono k; by unfold Xd.f; exact (LeO.bind (Ys.mono k _) fun _ => LeO.bind (LeO.gd (Ys.mono k _)) fun _ => LeO.ite (LeO.refl _) (LeO.ite (hl.l0 _ _ _ _) (LeO.refl _)))
noncomputable def Xd.Kl0 : List Item := .code (lopB (blkB (seqR (seqL (seqR (seqR Xd.C)))))) :: .inLoop (lopB (blkB (seqR (seqL (seqR (seqR Xd.C)))))) :: .inBlock 0 :: .code (seqR (seqR (seqR Xd.C))) :: []
structure Xd.OK (h : Xd.Hs) : Prop where
 l0 : ∀ {H0 H : Hp} {L : Items} {r : (Option Int)} {jk_ : Nat → Value} {t2 : Option Int} {t22 : List Int} {t23 : Int} {t24 : Int} {v_t22 : Value} (_ : H0.le H) (_he : h.l0 t2 t22 t23 t24 = some r) (_h_t22 : Ro kI64 H v_t22 t22), Wp Tryz.prog 91 32 Xd.Kl0 (upd (upd (upd (upd jk_ 2 (errV 104 t2)) 22 (v_t22)) 23 (.int .i64 t23)) 24 (.int .i64 t24)) H (L) (Xd.R H0 L r)
theorem Xd.b0_ok {k : Nat} {h : Xd.Hs} (hh : Xd.OK h) {H0 H : Hp} {L : Items} {r : (Option Int)} {jk_ : Nat → Value} {t2 : Option Int} {t22 : List Int} {t23 t24 : Int} {v_t22 : Value} (hle : H0.le H) (he : Xd.b0 k h t2 t22 t23 t24 = some r) (h_t22 : Ro kI64 H v_t22 t22) : Wp Tryz.prog 91 32 Xd.Kl0 (upd (upd (upd (upd jk_ 2 (errV 104 t2)) 22 (v_t22)) 23 (.int .i64 t23)) 24 (.int .i64 t24)) H (L) (Xd.R H0 L r) := by
 unfold Xd.b0 at he
 unfold Xd.Kl0
 refine wR rfl <| w_d rfl (XW rfl rfl) <| wE ?_
 rcases its he with ⟨c21, he⟩ | ⟨c21, he⟩
 ·
  refine QD rfl (dt c21) <| QF <| QX <| Q2 <| wR rfl <| rK he fun c22 he => w_d rfl (XA (sz := 1) Tryz.underlying72 sz2 rfl h_t22.src rfl c22) <| w_d rfl (XR ty2 rfl h_t22.src c22) <| wA (.int .i64 (rd t22 t24)) rfl rfl <| wE ?_
  refine QL rfl <| wM (.int .i64 (rd t22 t24)) rfl rfl <| w_d rfl (Zl rfl rfl) <| Qb ?_
  rcases its he with ⟨c23, he⟩ | ⟨c23, he⟩
  ·
   refine QE rfl (nd_t c23) <| QF <| Xw <| QL rfl <| w_d rfl (XQ (c := w64 (t24 + 1)) rfl rfl rfl) <| wM (.int .i64 (w64 (t24 + 1))) rfl rfl <| Qb <| XG <| w_sl 2 (errV 104 t2) rfl <| w_sl 22 (v_t22) rfl <| w_sl 23 (.int .i64 t23) rfl <| w_sl 24 (.int .i64 (w64 (t24 + 1))) rfl <| hh.l0 hle he h_t22
  ·
   refine QD rfl (nd_f c23) <| wR rfl <| w_d rfl (Zf (v := .int .i64 1) Tryz.underlying104 rfl rfl) <| wA (errV 104 (some 1)) rfl rfl <| Qb ?_
   obtain rfl := sj he
   refine Ql fn_91 rs_91 (.tmp (v := errV 104 (some 1)) rfl .nil) <| ⟨⟨[], rfl⟩, hle, rfl⟩
 ·
  refine QE rfl (df c21) <| X3 rfl <| wR rfl <| wA (errV 104 none) rfl rfl <| Qb ?_
  obtain rfl := sj he
  refine Ql fn_91 rs_91 (.tmp (v := errV 104 none) rfl .nil) <| ⟨⟨[], rfl⟩, hle, rfl⟩
theorem Xd.ok : ∀ k, Xd.OK (Xd.hs k)
 | 0 => ⟨(by intros; exact nomatch (show none = some _ from by assumption))⟩
 | k + 1 => ⟨Xd.b0_ok (k := k) (Xd.ok k)⟩
theorem Xd.calls (k : Nat) {H : Hp} {L : Items} {m : X9} {r : (Option Int)} (he : Xd.f k m = some r) : Ct Tryz.prog 91 ⟨[.agg ⟨(.int .i64 m.f_Rows :: .int .i64 m.f_Cols :: .int .i64 m.f_A.e0 :: .int .i64 m.f_A.e1 :: .int .i64 m.f_A.e2 :: .int .i64 m.f_A.e3 :: .int .i64 m.f_A.e4 :: .int .i64 m.f_A.e5 :: .int .i64 m.f_A.e6 :: .int .i64 m.f_A.e7 :: .int .i64 m.f_A.e8 :: .int .i64 m.f_A.e9 :: .int .i64 m.f_A.e10 :: .int .i64 m.f_A.e11 :: .int .i64 m.f_A.e12 :: .int .i64 m.f_A.e13 :: .int .i64 m.f_A.e14 :: .int .i64 m.f_A.e15 :: .int .i64 m.f_A.e16 :: .int .i64 m.f_A.e17 :: .int .i64 m.f_A.e18 :: .int .i64 m.f_A.e19 :: .int .i64 m.f_A.e20 :: .int .i64 m.f_A.e21 :: .int .i64 m.f_A.e22 :: .int .i64 m.f_A.e23 :: .int .i64 m.f_A.e24 :: .int .i64 m.f_A.e25 :: .int .i64 m.f_A.e26 :: .int .i64 m.f_A.e27 :: .int .i64 m.f_A.e28 :: .int .i64 m.f_A.e29 :: .int .i64 m.f_A.e30 :: .int .i64 m.f_A.e31 :: .int .i64 m.f_A.e32 :: .int .i64 m.f_A.e33 :: .int .i64 m.f_A.e34 :: .int .i64 m.f_A.e35 :: [])⟩]⟩ H L (fun v H' L' => L = L' ∧ H = H' ∧ v = errV 104 r) := by
 refine Yp (O := Xd.out r) (fun _ _ h => h) ?_
 have hle : H.le H := .refl _
 have hh := Xd.ok k
 unfold Xd.f at he
 refine QV (args := [_]) fn_91 rfl nt_91 rfl <| wR rfl <| wB (.agg ⟨(.int .i64 m.f_Rows :: .int .i64 m.f_Cols :: .int .i64 m.f_A.e0 :: .int .i64 m.f_A.e1 :: .int .i64 m.f_A.e2 :: .int .i64 m.f_A.e3 :: .int .i64 m.f_A.e4 :: .int .i64 m.f_A.e5 :: .int .i64 m.f_A.e6 :: .int .i64 m.f_A.e7 :: .int .i64 m.f_A.e8 :: .int .i64 m.f_A.e9 :: .int .i64 m.f_A.e10 :: .int .i64 m.f_A.e11 :: .int .i64 m.f_A.e12 :: .int .i64 m.f_A.e13 :: .int .i64 m.f_A.e14 :: .int .i64 m.f_A.e15 :: .int .i64 m.f_A.e16 :: .int .i64 m.f_A.e17 :: .int .i64 m.f_A.e18 :: .int .i64 m.f_A.e19 :: .int .i64 m.f_A.e20 :: .int .i64 m.f_A.e21 :: .int .i64 m.f_A.e22 :: .int .i64 m.f_A.e23 :: .int .i64 m.f_A.e24 :: .int .i64 m.f_A.e25 :: .int .i64 m.f_A.e26 :: .int .i64 m.f_A.e27 :: .int .i64 m.f_A.e28 :: .int .i64 m.f_A.e29 :: .int .i64 m.f_A.e30 :: .int .i64 m.f_A.e31 :: .int .i64 m.f_A.e32 :: .int .i64 m.f_A.e33 :: .int .i64 m.f_A.e34 :: .int .i64 m.f_A.e35 :: [])⟩) rfl rfl rfl <| fun b1 => wA (errV 104 none) rfl rfl <| wE <| wR rfl <| w_d rfl (Xi (o' := 0) Tryz.underlying75 rfl sz3 rfl rfl rfl) <| wL (.int .i64 m.f_Rows) ty3 rfl rfl .here rfl rfl <| bK he fun y2 hy3 he => ?_
 refine w_d rfl (Xx (Qm co133 (vs := [.int .i64 m.f_Rows]) rfl (Ys.calls k hy3))) <| w_d rfl (Zs (b := y2) rfl) <| wM (.bool (!y2)) rfl rfl <| w_g (g := !(!y2)) rfl rfl rfl wn_f (fun g6 => Xi (o' := 1) Tryz.underlying75 rfl sz3 rfl rfl rfl) <| w_g (g := !(!y2)) rfl rfl rfl wn_f (fun g7 => QN (v := .int .i64 m.f_Cols) ty3 (cvt g7) .here rfl rfl rfl rfl) <| bK he fun y9 hy10 he => w_g (g := !(!y2)) rfl rfl rfl wn_f (fun g8 => Xx (Qm co133 (vs := [.int .i64 m.f_Cols]) (acons (cvt g8) (anil)) (Ys.calls k (gd_t g8 hy10)))) <| w_g (g := !(!y2)) rfl rfl rfl wn_f (fun g13 => Zs (b := y9) (cvt g13)) <| w_d rfl (d_or' (b := (!y2)) (p := (!y9)) rfl rfl rfl) <| Qb ?_
 rcases its he with ⟨c14, he⟩ | ⟨c14, he⟩
 ·
  refine QD rfl c14 <| wR rfl <| w_d rfl (Zf (v := .int .i64 1) Tryz.underlying104 rfl rfl) <| wA (errV 104 (some 1)) rfl rfl <| Qb ?_
  obtain rfl := sj he
  refine Ql fn_91 rs_91 (.tmp (v := errV 104 (some 1)) rfl .nil) <| ⟨⟨[_], rfl⟩, hle, rfl⟩
 ·
  refine QE rfl (Bool.eq_false_iff.2 c14) <| QF <| QX <| wR rfl <| w_d rfl (Xi (o' := 2) Tryz.underlying75 rfl sz73 rfl rfl rfl) <| w_d rfl (Xi (o' := 0) Tryz.underlying75 rfl sz3 rfl rfl rfl) <| wL (.int .i64 m.f_Rows) ty3 rfl rfl .here rfl rfl <| w_d rfl (Xi (o' := 1) Tryz.underlying75 rfl sz3 rfl rfl rfl) <| wL (.int .i64 m.f_Cols) ty3 rfl rfl .here rfl rfl <| w_d rfl (JD (c := w64 (m.f_Rows * m.f_Cols)) rfl rfl rfl) <| rK he fun c15 he => ?_
  refine UM .here ?_
  intro H16 e17 h18
  have h19 := Oo (L := L) h18
  have h20 := OO (Vb (xs := T73.toL m.f_A) h18 (m := 36) (off := 2) rfl rfl) c15
  refine w_d rfl (Nn (e := 2) (sz := 1) Tryz.underlying73 sz2 rfl (.inr ⟨_, _, rfl, rfl⟩) (.inl ⟨rfl, rfl⟩) c15) <| w_d rfl (Xo Tryz.underlying72 rfl h20.src) <| wM (.int .i64 0) rfl rfl <| Qb <| Q2 <| X5 <| Yu .here <| w_sl 2 (errV 104 none) rfl <| w_sl 22 (cutv 1 (asl b1 2 36) (w64 (m.f_Rows * m.f_Cols)) 36) rfl <| w_sl 23 (.int .i64 ((cut (T73.toL m.f_A) (w64 (m.f_Rows * m.f_Cols)) 36).length : Int)) rfl <| w_sl 24 (.int .i64 0) rfl <| hh.l0 (hle.trans e17) he h20
noncomputable def QU.C : Code := (Tryz.f113.body).getD .skip
abbrev QU.out (r : (List Int)) (H : Hp) (v : Value) : Prop := Ro kU32 H v r
abbrev QU.R (H0 : Hp) (L : Items) (r : (List Int)) := fR H0 L (QU.out r)
structure QU.Hs where
 l0 : (List Int) → Option (List Int)
noncomputable def QU.b0 (k : Nat) (h : QU.Hs) (w : List Int) : Option (List Int) := if (decide (0 < (w.length : Int))) = true → (0 : Int) ≤ w64 ((w.length : Int) - 1) ∧ w64 ((w.length : Int) - 1) < (w.length : Int) then (if ((decide (0 < (w.length : Int))) && (decide ((rd w (w64 ((w.length : Int) - 1))) = 0))) = true then (if (0 : Int) ≤ 0 ∧ (0 : Int) ≤ w64 ((w.length : Int) - 1) ∧ w64 ((w.length : Int) - 1) ≤ (w.length : Int) then (h.l0 (cut w 0 (w64 ((w.length : Int) - 1)))) else none) else (some (w))) else none
noncomputable def QU.hs : Nat → QU.Hs
 | 0 => ⟨fun _ => none⟩
 | k + 1 => ⟨fun x0 => QU.b0 k (QU.hs k) x0⟩
noncomputable def QU.f (k : Nat) (w : List Int) : Option (List Int) := (fun h : QU.Hs => h.l0 w) (QU.hs k)
structure QU.LE (h h' : QU.Hs) : Prop where
 l0 : ∀ y0, LeO (h.l0 y0) (h'.l0 y0)
theorem QU.b0_mono {k : Nat} {h h' : QU.Hs} (hl : QU.LE h h') : ∀ y0, LeO (QU.b0 k h y0) (QU.b0 (k + 1) h' y0) := fun _ => (LeO.ite (LeO.ite (LeO.ite (hl.l0 _) (LeO.refl _)) (LeO.refl _)) (LeO.refl _))
theorem QU.hs_mono : ∀ k, QU.LE (QU.hs k) (QU.hs (k + 1))
 | 0 => ⟨fun _ => LeO.none _⟩
 | k + 1 => ⟨QU.b0_mono (k := k) (QU.hs_mono k)⟩
theorem QU.mono : ∀ k y0, LeO (QU.f k y0) (QU.f (k + 1) y0) := fun k _ => have hl := QU.hs_mono k; by unfold QU.f; exact (hl.l0 _)
noncomputable def QU.Kl0 : List Item := .code (lopB (blkB (seqL (seqR QU.C)))) :: .inLoop (lopB (blkB (seqL (seqR QU.C)))) :: .inBlock 0 :: .code (seqR (seqR QU.C)) :: []
structure QU.OK (h : QU.Hs) : Prop where
 l0 : ∀ {H0 H : Hp} {L : Items} {r : (List Int)} {jk_ : Nat → Value} {w : List Int} {v_w : Value} (_ : H0.le H) (_he : h.l0 w = some r) (_h_w : Ro kU32 H v_w w), Wp Tryz.prog 113 21 QU.Kl0 (upd (upd jk_ 0 (v_w)) 2 (.slice none 0 0)) H (L) (QU.R H0 L r)
theorem QU.b0_ok {k : Nat} {h : QU.Hs} (hh : QU.OK h) {H0 H : Hp} {L : Items} {r : (List Int)} {jk_ : Nat → Value} {w : List Int} {v_w : Value} (hle : H0.le H) (he : QU.b0 k h w = some r) (h_w : Ro kU32 H v_w w) : Wp Tryz.prog 113 21 QU.Kl0 (upd (upd jk_ 0 (v_w)) 2 (.slice none 0 0)) H (L) (QU.R H0 L r) := by
 unfold QU.b0 at he
 unfold QU.Kl0
 refine QX <| wR rfl <| wM v_w rfl rfl <| w_d rfl (Xo Tryz.underlying22 rfl h_w.src) <| w_d rfl (YV rfl rfl) <| wM (.bool (decide (0 < (w.length : Int)))) rfl rfl <| w_g (g := decide (0 < (w.length : Int))) rfl rfl rfl wn_t (fun g1 => QT (v := v_w) rfl) <| w_g (g := decide (0 < (w.length : Int))) rfl rfl rfl wn_t (fun g2 => QT (v := v_w) rfl) <| w_g (g := decide (0 < (w.length : Int))) rfl rfl rfl wn_t (fun g3 => Xo Tryz.underlying22 (cvt g3) h_w.src) <| w_g (g := decide (0 < (w.length : Int))) rfl rfl rfl wn_t (fun g4 => YE (c := w64 ((w.length : Int) - 1)) (cvt g4) rfl rfl) <| rK he fun c6 he => ?_
 refine w_g (g := decide (0 < (w.length : Int))) rfl rfl rfl wn_t (fun g5 => XA (sz := 1) Tryz.underlying22 sz167 (cvt g5) h_w.src (cvt g5) (c6 g5)) <| w_g (g := decide (0 < (w.length : Int))) rfl rfl rfl wn_t (fun g7 => XR ty167 (cvt g7) h_w.src (c6 g7)) <| w_g (g := decide (0 < (w.length : Int))) rfl rfl rfl wn_t (fun g8 => YY (cvt g8) rfl) <| w_d rfl (d_and' (b := (decide (0 < (w.length : Int)))) (p := (decide ((rd w (w64 ((w.length : Int) - 1))) = 0))) rfl rfl rfl) <| Qb ?_
 rcases its he with ⟨c9, he⟩ | ⟨c9, he⟩
 ·
  refine QD rfl c9 <| QF <| Q2 <| QL rfl <| wM v_w rfl rfl <| wM v_w rfl rfl <| w_d rfl (Xo Tryz.underlying22 rfl h_w.src) <| w_d rfl (YE (c := w64 ((w.length : Int) - 1)) rfl rfl rfl) <| rK he fun c10 he => w_a rfl (Nc (kd := kU32) Tryz.underlying22 sz167 rfl h_w (.inl ⟨rfl, rfl⟩) (.inr ⟨_, _, rfl, rfl⟩) c10) ?_
  rintro v11 _ _ ⟨h12, rfl, rfl⟩
  refine wA v11 rfl rfl <| Qb <| Xw <| XG <| w_sl 0 (v11) rfl <| w_sl 2 (.slice none 0 0) rfl <| hh.l0 hle he h12
 ·
  refine QE rfl (Bool.eq_false_iff.2 c9) <| X3 rfl <| wR rfl <| wM v_w rfl rfl <| wA v_w rfl rfl <| Qb ?_
  obtain rfl := sj he
  refine Ql fn_113 rs_113 (.tmp (v := v_w) rfl .nil) <| ⟨⟨[], rfl⟩, hle, h_w⟩
theorem QU.ok : ∀ k, QU.OK (QU.hs k)
 | 0 => ⟨(by intros; exact nomatch (show none = some _ from by assumption))⟩
 | k + 1 => ⟨QU.b0_ok (k := k) (QU.ok k)⟩
theorem QU.calls (k : Nat) {H : Hp} {L : Items} {w : List Int} {v0_w : Value} {r : (List Int)} (he : QU.f k w = some r) (h0_w : Ro kU32 H v0_w w) : Ct Tryz.prog 113 ⟨[v0_w]⟩ H L (cR H L (QU.out r)) := by
 refine XN (O := QU.out r) ?_
 have hle : H.le H := .refl _
 have hh := QU.ok k
 unfold QU.f at he
 refine QV (args := [_]) fn_113 rfl nt_113 rfl <| wR rfl <| wA (.slice none 0 0) rfl rfl <| wE <| Q2 <| X5 <| w_sl 0 (v0_w) rfl <| w_sl 2 (.slice none 0 0) rfl <| hh.l0 hle he h0_w
noncomputable def XK.C : Code := (Tryz.f71.body).getD .skip
def XK.out (r : Qv) (H : Hp) (v : Value) : Prop := ∃ v0, v = (Qd r v0) ∧ Ro kU32 H v0 r.f_w
theorem XK.out_mono (r : Qv) {H H' : Hp} {v : Value} (hle : H.le H') (h : XK.out r H v) : XK.out r H' v := by
 obtain ⟨v0, rfl, h0⟩ := h; exact ⟨v0, rfl, h0.mono hle⟩
abbrev XK.R (H0 : Hp) (L : Items) (r : Qv) := fR H0 L (XK.out r)
noncomputable def XK.j1 (k : Nat) (n v_ : Int) : Option Qv := (QU.f k [(v_) % 4294967296, (v_ / 4294967296) % 4294967296]).bind fun y9 => some (⟨decide (n < 0), y9⟩)
noncomputable def XK.f (k : Nat) (n : Int) : Option Qv := if n < 0 then (XK.j1 k n ((0 - ((n) % 18446744073709551616)) % 18446744073709551616)) else (XK.j1 k n ((n) % 18446744073709551616))
theorem XK.j1_mono {k : Nat} : ∀ y0 y1, LeO (XK.j1 k y0 y1) (XK.j1 (k + 1) y0 y1) := fun _ _ => (LeO.bind (QU.mono k _) fun _ => LeO.refl _)
theorem XK.mono : ∀ k y0, LeO (XK.f k y0) (XK.f (k + 1) y0) := fun k _ => by unfold XK.f; exact (LeO.ite (XK.j1_mono (k := k)  _ _) (XK.j1_mono (k := k)  _ _))
noncomputable def XK.Kj1 : List Item := .code (seqR (seqR (seqR XK.C))) :: []
theorem XK.j1_ok {k : Nat} {H0 H : Hp} {L : Items} {r : Qv} {jk_ : Nat → Value} {n v_ : Int} {b_t2 : Nat} (hle : H0.le H) (he : XK.j1 k n v_ = some r) : Wp Tryz.prog 71 20 XK.Kj1 (upd (upd (upd jk_ 0 (.int .i64 n)) 2 (pt b_t2)) 3 (.int .u64 v_)) H (bx b_t2 [.bool false, .slice none 0 0] 24 :: L) (XK.R H0 L r) := by
 unfold XK.j1 at he
 unfold XK.Kj1
 refine wR rfl <| wM (.int .i64 n) rfl rfl <| w_d rfl (XW rfl rfl) <| wM (.int .u64 v_) rfl rfl <| w_d rfl (Yd (c := (v_) % 4294967296) Tryz.underlying113 Tryz.underlying167 rfl rfl) <| wM (.int .u64 v_) rfl rfl <| w_d rfl (Jb (c := v_ / 4294967296) rfl rfl (by decide) rfl) <| w_d rfl (Yd (c := (v_ / 4294967296) % 4294967296) Tryz.underlying113 Tryz.underlying167 rfl rfl) <| w_a rfl (o_buildSlice' (kd := kU32) (css := [[.int .u32 ((v_) % 4294967296)], [.int .u32 ((v_ / 4294967296) % 4294967296)]]) (xs := [(v_) % 4294967296, (v_ / 4294967296) % 4294967296]) (parts := [(0, .int .u32 ((v_) % 4294967296)), (1, .int .u32 ((v_ / 4294967296) % 4294967296))]) Tryz.underlying22 ti167 rfl ⟨_, _, rfl, rfl, ⟨_, _, rfl, rfl, rfl⟩⟩ ⟨rfl, ⟨rfl, trivial⟩⟩ rfl (by decide)) ?_
 rintro v3 _ _ ⟨i4, rfl, rfl, h5⟩
 refine Yx h5 .here ?_
 intro H6 e7 h8
 refine bK he fun y9 hy10 he => w_a rfl (Qm co113 (vs := [v3]) rfl (QU.calls k hy10 h8)) ?_
 rintro v13 H11 _ ⟨rfl, e12, h14⟩
 refine w_d rfl (XE (cs' := [.bool (decide (n < 0)), v13]) Tryz.underlying24 zr24 rfl (by kernel_rfl) (parts := [(0, .bool (decide (n < 0))), (1, v13)]) rfl (.cons (YH rfl sz4 rfl) rfl rfl u1 (.cons (YH rfl sz22 rfl) h14.cells rfl (.there u1) .nil))) <| wS (.agg ⟨[.bool (decide (n < 0)), v13]⟩) sz24 rfl rfl rfl rfl rfl (oc rfl (oc (h14.one) oz)) .h1 u2 <| Qb ?_
 obtain rfl := sj he
 refine Ql fn_71 rs_71 (.box (v := .agg ⟨[.bool (decide (n < 0)), v13]⟩) rfl ty24 rfl rfl .h1 rfl .nil) <| ⟨⟨[_, _], rfl⟩, hle.trans (e7.trans e12), ⟨v13, rfl, h14⟩⟩
theorem XK.calls (k : Nat) {H : Hp} {L : Items} {n : Int} {r : Qv} (he : XK.f k n = some r) : Ct Tryz.prog 71 ⟨[.int .i64 n]⟩ H L (cR H L (XK.out r)) := by
 refine XN (O := XK.out r) ?_
 have hle : H.le H := .refl _
 unfold XK.f at he
 refine QV (args := [_]) fn_71 rfl nt_71 rfl <| wR rfl <| wN zr24 rfl rfl fun b1 => wQ rfl <| wM (.int .i64 n) rfl rfl <| w_d rfl (Yd (c := (n) % 18446744073709551616) Tryz.underlying2 Tryz.underlying113 rfl rfl) <| wA (.int .u64 ((n) % 18446744073709551616)) rfl rfl <| wE ?_
 refine wR rfl <| wM (.int .i64 n) rfl rfl <| w_d rfl (XW rfl rfl) <| Qb ?_
 rcases its he with ⟨c2, he⟩ | ⟨c2, he⟩
 ·
  refine QD rfl (dt c2) <| QL rfl <| wM (.int .u64 ((n) % 18446744073709551616)) rfl rfl <| w_d rfl (Mj (c := (0 - ((n) % 18446744073709551616)) % 18446744073709551616) rfl rfl) <| wA (.int .u64 ((0 - ((n) % 18446744073709551616)) % 18446744073709551616)) rfl rfl <| Qb <| w_sl 0 (.int .i64 n) rfl <| w_sl 2 (pt b1) rfl <| w_sl 3 (.int .u64 ((0 - ((n) % 18446744073709551616)) % 18446744073709551616)) rfl <| XK.j1_ok (k := k) hle he
 ·
  refine QE rfl (df c2) <| QF <| w_sl 0 (.int .i64 n) rfl <| w_sl 2 (pt b1) rfl <| w_sl 3 (.int .u64 ((n) % 18446744073709551616)) rfl <| XK.j1_ok (k := k) hle he
noncomputable def Xn.C : Code := (Tryz.f114.body).getD .skip
abbrev Xn.out (r : (List Int)) (H : Hp) (v : Value) : Prop := Ro kU32 H v r
abbrev Xn.R (H0 : Hp) (L : Items) (r : (List Int)) : Value → Hp → Items → Prop := fun v H' L' => (∃ p it, L' = p ++ it :: L ∧ Sl kU32 H' 167 it v r) ∧ H0.le H'
structure Xn.Hs where
 l0 : Int → (List Int) → Int → (List Int) → Int → Int → Option (List Int)
noncomputable def Xn.b0 (k : Nat) (h : Xn.Hs) (n : Int) (out : List Int) (carry : Int) (t14 : List Int) (t15 t16 : Int) : Option (List Int) := if t16 < t15 then (if (0 : Int) ≤ t16 ∧ t16 < (t14.length : Int) then (if 0 ≤ n then (if out.length + 1 ≤ 35184372088704 then (h.l0 n (out ++ [(ior .u64 ((((rd t14 t16) % 18446744073709551616) * 2 ^ shn .u64 n) % 18446744073709551616) ((carry) % 18446744073709551616)) % 4294967296]) (((ior .u64 ((((rd t14 t16) % 18446744073709551616) * 2 ^ shn .u64 n) % 18446744073709551616) ((carry) % 18446744073709551616)) / 4294967296) % 4294967296) t14 t15 (w64 (t16 + 1))) else none) else none) else none) else (if out.length + 1 ≤ 35184372088704 then (some (out ++ [carry])) else none)
noncomputable def Xn.hs : Nat → Xn.Hs
 | 0 => ⟨fun _ _ _ _ _ _ => none⟩
 | k + 1 => ⟨fun x0 x1 x2 x3 x4 x5 => Xn.b0 k (Xn.hs k) x0 x1 x2 x3 x4 x5⟩
noncomputable def Xn.f (k : Nat) (w : List Int) (n : Int) : Option (List Int) := (fun h : Xn.Hs => if 0 ≤ 0 ∧ 0 ≤ w64 ((w.length : Int) + 1) ∧ w64 ((w.length : Int) + 1) ≤ 70368744177664 then (h.l0 n (List.replicate (0 : Int).toNat (0 : Int)) 0 w (w.length : Int) 0) else none) (Xn.hs k)
structure Xn.LE (h h' : Xn.Hs) : Prop where
 l0 : ∀ y0 y1 y2 y3 y4 y5, LeO (h.l0 y0 y1 y2 y3 y4 y5) (h'.l0 y0 y1 y2 y3 y4 y5)
theorem Xn.b0_mono {k : Nat} {h h' : Xn.Hs} (hl : Xn.LE h h') : ∀ y0 y1 y2 y3 y4 y5, LeO (Xn.b0 k h y0 y1 y2 y3 y4 y5) (Xn.b0 (k + 1) h' y0 y1 y2 y3 y4 y5) := fun _ _ _ _ _ _ => (LeO.ite (LeO.ite (LeO.ite (LeO.ite (hl.l0 _ _ _ _ _ _) (LeO.refl _)) (LeO.refl _)) (LeO.refl _)) (LeO.ite (LeO.refl _) (LeO.refl _)))
theorem Xn.hs_mono : ∀ k, Xn.LE (Xn.hs k) (Xn.hs (k + 1))
 | 0 => ⟨fun _ _ _ _ _ _ => LeO.none _⟩
 | k + 1 => ⟨Xn.b0_mono (k := k) (Xn.hs_mono k)⟩
theorem Xn.mono : ∀ k y0 y1, LeO (Xn.f k y0 y1) (Xn.f (k + 1) y0 y1) := fun k _ _ => have hl := Xn.hs_mono k; by unfold Xn.f; exact (LeO.ite (hl.l0 _ _ _ _ _ _) (LeO.refl _))
noncomputable def Xn.Kl0 : List Item := .code (lopB (blkB (seqR (seqL (seqR (seqR (seqR Xn.C))))))) :: .inLoop (lopB (blkB (seqR (seqL (seqR (seqR (seqR Xn.C))))))) :: .inBlock 0 :: .code (seqR (seqR (seqR (seqR Xn.C)))) :: []
structure Xn.OK (h : Xn.Hs) : Prop where
 l0 : ∀ {H0 H : Hp} {L : Items} {r : (List Int)} {jk_ : Nat → Value} {n : Int} {out : List Int} {carry : Int} {t14 : List Int} {t15 : Int} {t16 : Int} {v_out : Value} {v_t14 : Value} {i_out : Item'} (_ : H0.le H) (_he : h.l0 n out carry t14 t15 t16 = some r) (_h_out : Sl kU32 H 167 i_out v_out out) (_h_t14 : Src kU32 H L v_t14 t14), Wp Tryz.prog 114 40 Xn.Kl0 (upd (upd (upd (upd (upd (upd (upd jk_ 1 (.int .i64 n)) 4 (.slice none 0 0)) 5 (v_out)) 6 (.int .u32 carry)) 14 (v_t14)) 15 (.int .i64 t15)) 16 (.int .i64 t16)) H (i_out :: L) (Xn.R H0 L r)
theorem Xn.b0_ok {k : Nat} {h : Xn.Hs} (hh : Xn.OK h) {H0 H : Hp} {L : Items} {r : (List Int)} {jk_ : Nat → Value} {n : Int} {out : List Int} {carry : Int} {t14 : List Int} {t15 t16 : Int} {v_out v_t14 : Value} {i_out : Item'} (hle : H0.le H) (he : Xn.b0 k h n out carry t14 t15 t16 = some r) (h_out : Sl kU32 H 167 i_out v_out out) (h_t14 : Src kU32 H L v_t14 t14) : Wp Tryz.prog 114 40 Xn.Kl0 (upd (upd (upd (upd (upd (upd (upd jk_ 1 (.int .i64 n)) 4 (.slice none 0 0)) 5 (v_out)) 6 (.int .u32 carry)) 14 (v_t14)) 15 (.int .i64 t15)) 16 (.int .i64 t16)) H (i_out :: L) (Xn.R H0 L r) := by
 unfold Xn.b0 at he
 unfold Xn.Kl0
 refine wR rfl <| w_d rfl (XW rfl rfl) <| wE ?_
 rcases its he with ⟨c5, he⟩ | ⟨c5, he⟩
 ·
  refine QD rfl (dt c5) <| QF <| QX <| Q2 <| wR rfl <| rK he fun c6 he => w_d rfl (XA (sz := 1) Tryz.underlying22 sz167 rfl h_t14.th rfl c6) <| w_d rfl (XR ty167 rfl h_t14.th c6) <| wA (.int .u32 (rd t14 t16)) rfl rfl <| wE ?_
  refine QL rfl <| wM (.int .u32 (rd t14 t16)) rfl rfl <| w_d rfl (Yd (c := (rd t14 t16) % 18446744073709551616) Tryz.underlying167 Tryz.underlying113 rfl rfl) <| wM (.int .i64 n) rfl rfl <| rK he fun c7 he => w_d rfl (Gq (c := (((rd t14 t16) % 18446744073709551616) * 2 ^ shn .u64 n) % 18446744073709551616) rfl rfl c7 rfl) <| wM (.int .u32 carry) rfl rfl <| w_d rfl (Yd (c := (carry) % 18446744073709551616) Tryz.underlying167 Tryz.underlying113 rfl rfl) <| w_d rfl (Gu rfl rfl) <| wA (.int .u64 (ior .u64 ((((rd t14 t16) % 18446744073709551616) * 2 ^ shn .u64 n) % 18446744073709551616) ((carry) % 18446744073709551616))) rfl rfl <| wE ?_
  refine QL rfl <| wM v_out rfl rfl <| wM (.int .u64 (ior .u64 ((((rd t14 t16) % 18446744073709551616) * 2 ^ shn .u64 n) % 18446744073709551616) ((carry) % 18446744073709551616))) rfl rfl <| w_d rfl (Yd (c := (ior .u64 ((((rd t14 t16) % 18446744073709551616) * 2 ^ shn .u64 n) % 18446744073709551616) ((carry) % 18446744073709551616)) % 4294967296) Tryz.underlying113 Tryz.underlying167 rfl rfl) <| w_a rfl (o_buildSlice' (kd := kU32) (css := [[.int .u32 ((ior .u64 ((((rd t14 t16) % 18446744073709551616) * 2 ^ shn .u64 n) % 18446744073709551616) ((carry) % 18446744073709551616)) % 4294967296)]]) (xs := [(ior .u64 ((((rd t14 t16) % 18446744073709551616) * 2 ^ shn .u64 n) % 18446744073709551616) ((carry) % 18446744073709551616)) % 4294967296]) (parts := [(0, .int .u32 ((ior .u64 ((((rd t14 t16) % 18446744073709551616) * 2 ^ shn .u64 n) % 18446744073709551616) ((carry) % 18446744073709551616)) % 4294967296))]) Tryz.underlying22 ti167 rfl ⟨_, _, rfl, rfl, rfl⟩ ⟨rfl, trivial⟩ rfl (by decide)) ?_
  rintro v8 _ _ ⟨i9, rfl, rfl, h10⟩
  refine rK he fun c11 he => w_a rfl (o_append' (kd := kU32) (F := fun z_ => i9 :: z_ :: L) Tryz.underlying22 Tryz.underlying22 ti167 rfl (by first | omega | (simp only [List.nil_append, List.length_cons, List.length_nil]; omega)) rfl rfl h_out (h10.src .here) (fun _ => .h1)) ?_
  rintro v12 _ _ ⟨i13, rfl, rfl, h14⟩
  refine wA v12 rfl rfl <| Qb <| QL rfl <| wM (.int .u64 (ior .u64 ((((rd t14 t16) % 18446744073709551616) * 2 ^ shn .u64 n) % 18446744073709551616) ((carry) % 18446744073709551616))) rfl rfl <| w_d rfl (Jb (c := (ior .u64 ((((rd t14 t16) % 18446744073709551616) * 2 ^ shn .u64 n) % 18446744073709551616) ((carry) % 18446744073709551616)) / 4294967296) rfl rfl (by decide) rfl) <| w_d rfl (Yd (c := ((ior .u64 ((((rd t14 t16) % 18446744073709551616) * 2 ^ shn .u64 n) % 18446744073709551616) ((carry) % 18446744073709551616)) / 4294967296) % 4294967296) Tryz.underlying113 Tryz.underlying167 rfl rfl) <| wA (.int .u32 (((ior .u64 ((((rd t14 t16) % 18446744073709551616) * 2 ^ shn .u64 n) % 18446744073709551616) ((carry) % 18446744073709551616)) / 4294967296) % 4294967296)) rfl rfl <| Qb <| Xw <| QL rfl <| w_d rfl (XQ (c := w64 (t16 + 1)) rfl rfl rfl) <| wM (.int .i64 (w64 (t16 + 1))) rfl rfl ?_
  refine Qb <| XG <| Yu .here <| w_sl 1 (.int .i64 n) rfl <| w_sl 4 (.slice none 0 0) rfl <| w_sl 5 (v12) rfl <| w_sl 6 (.int .u32 (((ior .u64 ((((rd t14 t16) % 18446744073709551616) * 2 ^ shn .u64 n) % 18446744073709551616) ((carry) % 18446744073709551616)) / 4294967296) % 4294967296)) rfl <| w_sl 14 (v_t14) rfl <| w_sl 15 (.int .i64 t15) rfl <| w_sl 16 (.int .i64 (w64 (t16 + 1))) rfl <| hh.l0 hle he h14 h_t14
 ·
  refine QE rfl (df c5) <| X3 rfl <| wR rfl <| wM v_out rfl rfl <| wM (.int .u32 carry) rfl rfl <| w_a rfl (o_buildSlice' (kd := kU32) (css := [[.int .u32 carry]]) (xs := [carry]) (parts := [(0, .int .u32 carry)]) Tryz.underlying22 ti167 rfl ⟨_, _, rfl, rfl, rfl⟩ ⟨rfl, trivial⟩ rfl (by decide)) ?_
  rintro v15 _ _ ⟨i16, rfl, rfl, h17⟩
  refine rK he fun c18 he => w_a rfl (o_append' (kd := kU32) (F := fun z_ => i16 :: z_ :: L) Tryz.underlying22 Tryz.underlying22 ti167 rfl (by first | omega | (simp only [List.nil_append, List.length_cons, List.length_nil]; omega)) rfl rfl h_out (h17.src .here) (fun _ => .h1)) ?_
  rintro v19 _ _ ⟨i20, rfl, rfl, h21⟩
  refine wA v19 rfl rfl <| Qb ?_
  obtain rfl := sj he
  refine Yu .here <| Ql fn_114 rs_114 (.tmp (v := v19) rfl .nil) <| ⟨⟨[], _, rfl, h21⟩, hle⟩
theorem Xn.ok : ∀ k, Xn.OK (Xn.hs k)
 | 0 => ⟨(by intros; exact nomatch (show none = some _ from by assumption))⟩
 | k + 1 => ⟨Xn.b0_ok (k := k) (Xn.ok k)⟩
theorem Xn.calls (k : Nat) {H : Hp} {L : Items} {w : List Int} {n : Int} {v0_w : Value} {r : (List Int)} (he : Xn.f k w n = some r) (h0_w : Src kU32 H L v0_w w) : Ct Tryz.prog 114 ⟨[v0_w, .int .i64 n]⟩ H L (fun v H' L' => ∃ it, L' = it :: L ∧ H.le H' ∧ Sl kU32 H' 167 it v r) := by
 refine Vc ?_
 have hle : H.le H := .refl _
 have hh := Xn.ok k
 unfold Xn.f at he
 refine QV (args := [_, _]) fn_114 rfl nt_114 rfl <| wR rfl <| wA (.slice none 0 0) rfl rfl <| wQ rfl <| wM v0_w rfl rfl <| w_d rfl (Xo Tryz.underlying22 rfl h0_w) <| w_d rfl (XQ (c := w64 ((w.length : Int) + 1)) rfl rfl rfl) <| rK he fun c1 he => w_a rfl (o_make' (kd := kU32) (z0 := 0) Tryz.underlying22 ti167 (zp167 _) rfl rfl (by omega) (by omega) (by omega)) ?_
 rintro v2 _ _ ⟨i3, rfl, rfl, h4⟩
 refine wA v2 rfl rfl <| wQ rfl <| wA (.int .u32 0) rfl rfl <| wE <| wR rfl <| wM v0_w rfl rfl <| w_d rfl (Xo Tryz.underlying22 rfl h0_w.th) <| wM (.int .i64 0) rfl rfl ?_
 refine Qb <| Q2 <| X5 <| w_sl 1 (.int .i64 n) rfl <| w_sl 4 (.slice none 0 0) rfl <| w_sl 5 (v2) rfl <| w_sl 6 (.int .u32 0) rfl <| w_sl 14 (v0_w) rfl <| w_sl 15 (.int .i64 (w.length : Int)) rfl <| w_sl 16 (.int .i64 0) rfl <| hh.l0 hle he h4 h0_w
theorem Xn.callsR (k : Nat) {H : Hp} {L : Items} {w : List Int} {n : Int} {v0_w : Value} {r : (List Int)} (he : Xn.f k w n = some r) (h0_w : Src kU32 H L v0_w w) : Ct Tryz.prog 114 ⟨[v0_w, .int .i64 n]⟩ H L (cR H L (Xn.out r)) := Wo (Xn.calls k he h0_w)
noncomputable def XI.C : Code := (Tryz.f115.body).getD .skip
def XI.out (r : Qv × (Option Int)) (H : Hp) (v : Value) : Prop := ∃ v0, v = .tuple ⟨[(Qd r.1 v0), errV 104 r.2]⟩ ∧ Ro kU32 H v0 r.1.f_w
theorem XI.out_mono (r : Qv × (Option Int)) {H H' : Hp} {v : Value} (hle : H.le H') (h : XI.out r H v) : XI.out r H' v := by
 obtain ⟨v0, rfl, h0⟩ := h; exact ⟨v0, rfl, h0.mono hle⟩
noncomputable def XI.f (k : Nat) (neg : Bool) (w : List Int) : Option (Qv × (Option Int)) := (QU.f k w).bind fun y2 => if 128 < (y2.length : Int) then (some (⟨false, []⟩, some 12)) else (some (⟨neg && (decide (0 < (y2.length : Int))), y2⟩, none))
theorem XI.mono : ∀ k y0 y1, LeO (XI.f k y0 y1) (XI.f (k + 1) y0 y1) := fun k _ _ => by unfold XI.f; exact (LeO.bind (QU.mono k _) fun _ => LeO.ite (LeO.refl _) (LeO.refl _))
theorem XI.calls (k : Nat) {H : Hp} {L : Items} {neg : Bool} {w : List Int} {v0_w : Value} {r : Qv × (Option Int)} (he : XI.f k neg w = some r) (h0_w : Ro kU32 H v0_w w) : Ct Tryz.prog 115 ⟨[.bool neg, v0_w]⟩ H L (cR H L (XI.out r)) := by
 refine XN (O := XI.out r) ?_
 have hle : H.le H := .refl _
 unfold XI.f at he
 refine QV (args := [_, _]) fn_115 rfl nt_115 rfl <| wR rfl <| wN zr24 rfl rfl fun b1 => wA (errV 104 none) rfl rfl <| wQ rfl <| wM v0_w rfl rfl <| bK he fun y2 hy3 he => w_a rfl (Qm co113 (vs := [v0_w]) rfl (QU.calls k hy3 h0_w)) ?_
 rintro v6 H4 _ ⟨rfl, e5, h7⟩
 refine wA v6 rfl rfl <| wE <| wR rfl <| wM v6 rfl rfl <| w_d rfl (Xo Tryz.underlying22 rfl h7.src) <| w_d rfl (YV rfl rfl) <| Qb ?_
 rcases its he with ⟨c8, he⟩ | ⟨c8, he⟩
 ·
  refine QD rfl (dt c8) <| wR rfl <| w_d rfl (XE (cs' := [.bool false, .slice none 0 0]) Tryz.underlying24 zr24 rfl (by kernel_rfl) (parts := []) rfl .nil) <| w_d rfl (Zf (v := .int .i64 12) Tryz.underlying104 rfl rfl) <| wS (.agg ⟨[.bool false, .slice none 0 0]⟩) sz24 rfl rfl rfl rfl rfl (oc rfl (oc rfl oz)) .here u2 <| wA (errV 104 (some 12)) rfl rfl <| Qb ?_
  obtain rfl := sj he
  refine Ql fn_115 rs_115 (.box (v := .agg ⟨[.bool false, .slice none 0 0]⟩) rfl ty24 rfl rfl .here rfl (.tmp (v := errV 104 (some 12)) rfl .nil)) <| ⟨⟨[_], rfl⟩, hle.trans e5, ⟨.slice none 0 0, rfl, (Xj _ _)⟩⟩
 ·
  refine QE rfl (df c8) <| QF <| wR rfl <| wM (.bool neg) rfl rfl <| wM (.bool neg) rfl rfl <| w_g (g := neg) rfl rfl rfl wn_t (fun g9 => QT (v := v6) rfl) <| w_g (g := neg) rfl rfl rfl wn_t (fun g10 => Xo Tryz.underlying22 (cvt g10) h7.src) <| w_g (g := neg) rfl rfl rfl wn_t (fun g11 => YV (cvt g11) rfl) <| w_d rfl (d_and' (b := neg) (p := (decide (0 < (y2.length : Int)))) rfl rfl rfl) <| wM v6 rfl rfl <| w_d rfl (XE (cs' := [.bool (neg && (decide (0 < (y2.length : Int)))), v6]) Tryz.underlying24 zr24 rfl (by kernel_rfl) (parts := [(0, .bool (neg && (decide (0 < (y2.length : Int))))), (1, v6)]) rfl (.cons (YH rfl sz4 rfl) rfl rfl u1 (.cons (YH rfl sz22 rfl) h7.cells rfl (.there u1) .nil))) ?_
  refine wS (.agg ⟨[.bool (neg && (decide (0 < (y2.length : Int)))), v6]⟩) sz24 rfl rfl rfl rfl rfl (oc rfl (oc (h7.one) oz)) .here u2 <| wA (errV 104 none) rfl rfl <| Qb ?_
  obtain rfl := sj he
  refine Ql fn_115 rs_115 (.box (v := .agg ⟨[.bool (neg && (decide (0 < (y2.length : Int)))), v6]⟩) rfl ty24 rfl rfl .here rfl (.tmp (v := errV 104 none) rfl .nil)) <| ⟨⟨[_], rfl⟩, hle.trans e5, ⟨v6, rfl, h7⟩⟩
noncomputable def Yv.C : Code := (Tryz.f117.body).getD .skip
def Yv.out (r : Bool) (H : Hp) (v : Value) : Prop := v = .bool r
noncomputable def Yv.f (k : Nat) (x : Int) : Option Bool := some (!decide (x = 0))
theorem Yv.mono : ∀ k y0, LeO (Yv.f k y0) (Yv.f (k + 1) y0) := fun k _ => by unfold Yv.f; exact (LeO.refl _)
theorem Yv.calls (k : Nat) {H : Hp} {L : Items} {x : Int} {r : Bool} (he : Yv.f k x = some r) : Ct Tryz.prog 117 ⟨[.int .u32 x]⟩ H L (fun v H' L' => L = L' ∧ H = H' ∧ v = .bool r) := by
 refine Yp (O := Yv.out r) (fun _ _ h => h) ?_
 have hle : H.le H := .refl _
 unfold Yv.f at he
 refine QV (args := [_]) fn_117 rfl nt_117 rfl <| wR rfl <| wA (.bool false) rfl rfl <| wQ rfl <| wM (.int .u32 x) rfl rfl <| w_d rfl (Zl rfl rfl) <| wA (.bool (!decide (x = 0))) rfl rfl <| Qb ?_
 obtain rfl := sj he
 refine Ql fn_117 rs_117 (.tmp (v := .bool (!decide (x = 0))) rfl .nil) <| ⟨⟨[], rfl⟩, hle, rfl⟩
noncomputable def Qe.C : Code := (Tryz.f141.body).getD .skip
def Qe.out (r : Int) (H : Hp) (v : Value) : Prop := v = .int .i64 r
abbrev Qe.R (H0 : Hp) (L : Items) (r : Int) := fR H0 L (Qe.out r)
structure Qe.Hs where
 l0 : (List Int) → Int → Int → Int → Option Int
noncomputable def Qe.b0 (k : Nat) (h : Qe.Hs) (s : List Int) (t4 t7 t8 : Int) : Option Int := if t8 < t7 then (if (0 : Int) ≤ t8 ∧ t8 < (s.length : Int) then ((Yv.f k (rd s t8)).bind fun y3 => if y3 = true then (some (t8)) else (h.l0 s t4 t7 (w64 (t8 + 1)))) else none) else (some ((-1)))
noncomputable def Qe.hs : Nat → Qe.Hs
 | 0 => ⟨fun _ _ _ _ => none⟩
 | k + 1 => ⟨fun x0 x1 x2 x3 => Qe.b0 k (Qe.hs k) x0 x1 x2 x3⟩
noncomputable def Qe.f (k : Nat) (s : List Int) : Option Int := (fun h : Qe.Hs => h.l0 s 0 (s.length : Int) 0) (Qe.hs k)
structure Qe.LE (h h' : Qe.Hs) : Prop where
 l0 : ∀ y0 y1 y2 y3, LeO (h.l0 y0 y1 y2 y3) (h'.l0 y0 y1 y2 y3)
theorem Qe.b0_mono {k : Nat} {h h' : Qe.Hs} (hl : Qe.LE h h') : ∀ y0 y1 y2 y3, LeO (Qe.b0 k h y0 y1 y2 y3) (Qe.b0 (k + 1) h' y0 y1 y2 y3) := fun _ _ _ _ => (LeO.ite (LeO.ite (LeO.bind (Yv.mono k _) fun _ => LeO.ite (LeO.refl _) (hl.l0 _ _ _ _)) (LeO.refl _)) (LeO.refl _))
theorem Qe.hs_mono : ∀ k, Qe.LE (Qe.hs k) (Qe.hs (k + 1))
 | 0 => ⟨fun _ _ _ _ => LeO.none _⟩
 | k + 1 => ⟨Qe.b0_mono (k := k) (Qe.hs_mono k)⟩
theorem Qe.mono : ∀ k y0, LeO (Qe.f k y0) (Qe.f (k + 1) y0) := fun k _ => have hl := Qe.hs_mono k; by unfold Qe.f; exact (hl.l0 _ _ _ _)
noncomputable def Qe.Kl0 : List Item := .code (lopB (blkB (seqR (seqL (seqR Qe.C))))) :: .inLoop (lopB (blkB (seqR (seqL (seqR Qe.C))))) :: .inBlock 0 :: .code (seqR (seqR Qe.C)) :: []
structure Qe.OK (h : Qe.Hs) : Prop where
 l0 : ∀ {H0 H : Hp} {L : Items} {r : Int} {jk_ : Nat → Value} {s : List Int} {t4 : Int} {t7 : Int} {t8 : Int} {v_s : Value} (_ : H0.le H) (_he : h.l0 s t4 t7 t8 = some r) (_h_s : Src kU32 H L v_s s), Wp Tryz.prog 141 19 Qe.Kl0 (upd (upd (upd (upd (upd jk_ 0 (v_s)) 1 (.func (.func 117) #[] #[])) 4 (.int .i64 t4)) 7 (.int .i64 t7)) 8 (.int .i64 t8)) H (L) (Qe.R H0 L r)
theorem Qe.b0_ok {k : Nat} {h : Qe.Hs} (hh : Qe.OK h) {H0 H : Hp} {L : Items} {r : Int} {jk_ : Nat → Value} {s : List Int} {t4 t7 t8 : Int} {v_s : Value} (hle : H0.le H) (he : Qe.b0 k h s t4 t7 t8 = some r) (h_s : Src kU32 H L v_s s) : Wp Tryz.prog 141 19 Qe.Kl0 (upd (upd (upd (upd (upd jk_ 0 (v_s)) 1 (.func (.func 117) #[] #[])) 4 (.int .i64 t4)) 7 (.int .i64 t7)) 8 (.int .i64 t8)) H (L) (Qe.R H0 L r) := by
 unfold Qe.b0 at he
 unfold Qe.Kl0
 refine wR rfl <| w_d rfl (XW rfl rfl) <| wE ?_
 rcases its he with ⟨c1, he⟩ | ⟨c1, he⟩
 ·
  refine QD rfl (dt c1) <| QF <| QX <| Q2 <| wR rfl <| wM (.int .i64 t8) rfl rfl <| wA (.int .i64 t8) rfl rfl <| wQ rfl <| wM (.func (.func 117) #[] #[]) rfl rfl ?_
  refine wM v_s rfl rfl <| wM (.int .i64 t8) rfl rfl <| rK he fun c2 he => w_d rfl (XA (sz := 1) Tryz.underlying22 sz167 rfl h_s rfl c2) <| w_d rfl (XR ty167 rfl h_s c2) <| bK he fun y3 hy4 he => w_d rfl (Xx (WG rfl co117 (vs := [.int .u32 (rd s t8)]) rfl (Yv.calls k hy4))) <| Qb ?_
  rcases its he with ⟨c7, he⟩ | ⟨c7, he⟩
  ·
   refine QD rfl c7 <| wR rfl <| wM (.int .i64 t8) rfl rfl <| wA (.int .i64 t8) rfl rfl <| Qb ?_
   obtain rfl := sj he
   refine Ql fn_141 rs_141 (.tmp (v := .int .i64 t8) rfl .nil) <| ⟨⟨[], rfl⟩, hle, rfl⟩
  ·
   refine QE rfl (Bool.eq_false_iff.2 c7) <| QF <| Xw <| QL rfl <| w_d rfl (XQ (c := w64 (t8 + 1)) rfl rfl rfl) <| wM (.int .i64 (w64 (t8 + 1))) rfl rfl <| Qb <| XG <| w_sl 0 (v_s) rfl <| w_sl 1 (.func (.func 117) #[] #[]) rfl <| w_sl 4 (.int .i64 t4) rfl <| w_sl 7 (.int .i64 t7) rfl ?_
   refine w_sl 8 (.int .i64 (w64 (t8 + 1))) rfl <| hh.l0 hle he h_s
 ·
  refine QE rfl (df c1) <| X3 rfl <| wR rfl <| wA (.int .i64 (-1)) rfl rfl <| Qb ?_
  obtain rfl := sj he
  refine Ql fn_141 rs_141 (.tmp (v := .int .i64 (-1)) rfl .nil) <| ⟨⟨[], rfl⟩, hle, rfl⟩
theorem Qe.ok : ∀ k, Qe.OK (Qe.hs k)
 | 0 => ⟨(by intros; exact nomatch (show none = some _ from by assumption))⟩
 | k + 1 => ⟨Qe.b0_ok (k := k) (Qe.ok k)⟩
theorem Qe.calls (k : Nat) {H : Hp} {L : Items} {s : List Int} {v0_s : Value} {r : Int} (he : Qe.f k s = some r) (h0_s : Src kU32 H L v0_s s) : Ct Tryz.prog 141 ⟨[v0_s, .func (.func 117) #[] #[]]⟩ H L (fun v H' L' => L = L' ∧ H = H' ∧ v = .int .i64 r) := by
 refine Yp (O := Qe.out r) (fun _ _ h => h) ?_
 have hle : H.le H := .refl _
 have hh := Qe.ok k
 unfold Qe.f at he
 refine QV (args := [_, _]) fn_141 rfl nt_141 rfl <| wR rfl <| wA (.int .i64 0) rfl rfl <| wE <| wR rfl <| wM v0_s rfl rfl <| w_d rfl (Xo Tryz.underlying22 rfl h0_s) <| wM (.int .i64 0) rfl rfl <| Qb ?_
 refine Q2 <| X5 <| w_sl 0 (v0_s) rfl <| w_sl 1 (.func (.func 117) #[] #[]) rfl <| w_sl 4 (.int .i64 0) rfl <| w_sl 7 (.int .i64 (s.length : Int)) rfl <| w_sl 8 (.int .i64 0) rfl <| hh.l0 hle he h0_s
noncomputable def Q8.C : Code := (Tryz.f116.body).getD .skip
def Q8.out (r : Bool) (H : Hp) (v : Value) : Prop := v = .bool r
noncomputable def Q8.f (k : Nat) (s : List Int) : Option Bool := (Qe.f k s).bind fun y1 => some (decide (0 ≤ y1))
theorem Q8.mono : ∀ k y0, LeO (Q8.f k y0) (Q8.f (k + 1) y0) := fun k _ => by unfold Q8.f; exact (LeO.bind (Qe.mono k _) fun _ => LeO.refl _)
theorem Q8.calls (k : Nat) {H : Hp} {L : Items} {s : List Int} {v0_s : Value} {r : Bool} (he : Q8.f k s = some r) (h0_s : Src kU32 H L v0_s s) : Ct Tryz.prog 116 ⟨[v0_s, .func (.func 117) #[] #[]]⟩ H L (fun v H' L' => L = L' ∧ H = H' ∧ v = .bool r) := by
 refine Yp (O := Q8.out r) (fun _ _ h => h) ?_
 have hle : H.le H := .refl _
 unfold Q8.f at he
 refine QV (args := [_, _]) fn_116 rfl nt_116 rfl <| wR rfl <| wA (.bool false) rfl rfl <| wQ rfl <| wM v0_s rfl rfl <| wM (.func (.func 117) #[] #[]) rfl rfl <| bK he fun y1 hy2 he => w_d rfl (Xx (Qm co141 (vs := [v0_s, .func (.func 117) #[] #[]]) rfl (Qe.calls k hy2 h0_s))) <| w_d rfl (ZO rfl rfl) ?_
 refine wA (.bool (decide (0 ≤ y1))) rfl rfl <| Qb ?_
 obtain rfl := sj he
 refine Ql fn_116 rs_116 (.tmp (v := .bool (decide (0 ≤ y1))) rfl .nil) <| ⟨⟨[], rfl⟩, hle, rfl⟩
noncomputable def Xb.C : Code := (Tryz.f119.body).getD .skip
abbrev Xb.out (r : (List Int)) (H : Hp) (v : Value) : Prop := Ro kU32 H v r
noncomputable def Xb.f (k : Nat) (s : List Int) : Option (List Int) := if 0 + s.length ≤ 35184372088704 then (some (s)) else none
theorem Xb.mono : ∀ k y0, LeO (Xb.f k y0) (Xb.f (k + 1) y0) := fun k _ => by unfold Xb.f; exact (LeO.ite (LeO.refl _) (LeO.refl _))
theorem Xb.calls (k : Nat) {H : Hp} {L : Items} {s : List Int} {v0_s : Value} {r : (List Int)} (he : Xb.f k s = some r) (h0_s : Ro kU32 H v0_s s) : Ct Tryz.prog 119 ⟨[v0_s]⟩ H L (fun v H' L' => ∃ it, L' = it :: L ∧ H.le H' ∧ Sl kU32 H' 167 it v r) := by
 refine Vc ?_
 have hle : H.le H := .refl _
 unfold Xb.f at he
 obtain ⟨A_, n_, rfl, hc_, h1_⟩ := h0_s
 cases A_ with
 | none =>
  have e_ : s = [] := h1_.elim id fun h => (by obtain ⟨_, _, h, _⟩ := h; cases h)
  subst e_
  refine rK he fun _ he => QV (args := [.slice none 0 n_]) fn_119 rfl nt_119 rfl <| wR rfl <| wA (.slice none 0 0) rfl rfl <| wE <| wR rfl <| wM (.slice none 0 n_) rfl rfl <| w_d rfl (UQ Tryz.underlying22 rfl) <| Qb ?_
  refine QD rfl rfl <| wR rfl <| wA (.slice none 0 0) rfl rfl <| Qb <| YG ?_
  obtain rfl := sj he
  refine Ql fn_119 rs_119 (.tmp (v := .slice none 0 0) rfl .nil) <| ⟨⟨[], _, rfl, (ZW _ _ _)⟩, hle⟩
 | some a_ =>
  have h0_s : Ro kU32 H (.slice (some a_) s.length n_) s := ⟨some a_, n_, rfl, hc_, h1_⟩
  refine QV (args := [.slice (some a_) s.length n_]) fn_119 rfl nt_119 rfl <| wR rfl <| wA (.slice none 0 0) rfl rfl <| wE <| wR rfl <| wM (.slice (some a_) s.length n_) rfl rfl <| w_d rfl (O4 Tryz.underlying22 rfl rfl) <| Qb <| QE rfl rfl ?_
  refine QF <| wR rfl <| w_a rfl (o_buildSlice' (kd := kU32) (css := []) (xs := []) (parts := []) Tryz.underlying22 ti167 rfl rfl trivial rfl (by decide)) ?_
  rintro v1 _ _ ⟨i2, rfl, rfl, h3⟩
  refine wM (.slice (some a_) s.length n_) rfl rfl <| rK he fun c4 he => w_a rfl (o_append' (kd := kU32) (F := fun z_ => z_ :: L) Tryz.underlying22 Tryz.underlying22 ti167 rfl (by first | omega | (simp only [List.nil_append, List.length_cons, List.length_nil]; omega)) rfl rfl h3 h0_s.src (fun _ => .here)) ?_
  rintro v5 _ _ ⟨i6, rfl, rfl, h7⟩
  refine wA v5 rfl rfl <| Qb ?_
  obtain rfl := sj he
  refine Ql fn_119 rs_119 (.tmp (v := v5) rfl .nil) <| ⟨⟨[], _, rfl, h7⟩, hle⟩
theorem Xb.callsR (k : Nat) {H : Hp} {L : Items} {s : List Int} {v0_s : Value} {r : (List Int)} (he : Xb.f k s = some r) (h0_s : Ro kU32 H v0_s s) : Ct Tryz.prog 119 ⟨[v0_s]⟩ H L (cR H L (Xb.out r)) := Wo (Xb.calls k he h0_s)
noncomputable def QK.C : Code := (Tryz.f118.body).getD .skip
abbrev QK.out (r : (List Int)) (H : Hp) (v : Value) : Prop := Ro kU32 H v r
abbrev QK.R (H0 : Hp) (L : Items) (r : (List Int)) := fR H0 L (QK.out r)
structure QK.Hs where
 l0 : Int → (List Int) → Int → Int → Option (List Int)
noncomputable def QK.j2 (k : Nat) (h : QK.Hs) (n : Int) (out : List Int) (i v_ t11 t12 : Int) : Option (List Int) := if 0 ≤ n then (if (0 : Int) ≤ i ∧ i < (out.length : Int) then (h.l0 n (out.set (i : Int).toNat ((v_ / 2 ^ shn .u64 n) % 4294967296)) t11 (w64 (t12 + 1))) else none) else none
noncomputable def QK.b0 (k : Nat) (h : QK.Hs) (n : Int) (out : List Int) (t11 t12 : Int) : Option (List Int) := if t12 < t11 then (if (0 : Int) ≤ t12 ∧ t12 < (out.length : Int) then (if (w64 (t12 + 1)) < (out.length : Int) then (if (0 : Int) ≤ w64 (t12 + 1) ∧ w64 (t12 + 1) < (out.length : Int) then (QK.j2 k h n out t12 (ior .u64 ((rd out t12) % 18446744073709551616) ((((rd out (w64 (t12 + 1))) % 18446744073709551616) * 4294967296) % 18446744073709551616)) t11 t12) else none) else (QK.j2 k h n out t12 ((rd out t12) % 18446744073709551616) t11 t12)) else none) else ((QU.f k out).bind fun y17 => some (y17))
noncomputable def QK.hs : Nat → QK.Hs
 | 0 => ⟨fun _ _ _ _ => none⟩
 | k + 1 => ⟨fun x0 x1 x2 x3 => QK.b0 k (QK.hs k) x0 x1 x2 x3⟩
noncomputable def QK.f (k : Nat) (w : List Int) (n : Int) : Option (List Int) := (fun h : QK.Hs => (Xb.f k w).bind fun y1 => h.l0 n y1 (y1.length : Int) 0) (QK.hs k)
structure QK.LE (h h' : QK.Hs) : Prop where
 l0 : ∀ y0 y1 y2 y3, LeO (h.l0 y0 y1 y2 y3) (h'.l0 y0 y1 y2 y3)
theorem QK.j2_mono {k : Nat} {h h' : QK.Hs} (hl : QK.LE h h') : ∀ y0 y1 y2 y3 y4 y5, LeO (QK.j2 k h y0 y1 y2 y3 y4 y5) (QK.j2 (k + 1) h' y0 y1 y2 y3 y4 y5) := fun _ _ _ _ _ _ => (LeO.ite (LeO.ite (hl.l0 _ _ _ _) (LeO.refl _)) (LeO.refl _))
theorem QK.b0_mono {k : Nat} {h h' : QK.Hs} (hl : QK.LE h h') : ∀ y0 y1 y2 y3, LeO (QK.b0 k h y0 y1 y2 y3) (QK.b0 (k + 1) h' y0 y1 y2 y3) := fun _ _ _ _ => (LeO.ite (LeO.ite (LeO.ite (LeO.ite (QK.j2_mono (k := k) hl _ _ _ _ _ _) (LeO.refl _)) (QK.j2_mono (k := k) hl _ _ _ _ _ _)) (LeO.refl _)) (LeO.bind (QU.mono k _) fun _ => LeO.refl _))
theorem QK.hs_mono : ∀ k, QK.LE (QK.hs k) (QK.hs (k + 1))
 | 0 => ⟨fun _ _ _ _ => LeO.none _⟩
 | k + 1 => ⟨QK.b0_mono (k := k) (QK.hs_mono k)⟩
theorem QK.mono : ∀ k y0 y1, LeO (QK.f k y0 y1) (QK.f (k + 1) y0 y1) := fun k _ _ => have hl := QK.hs_mono k; by unfold QK.f; exact (LeO.bind (Xb.mono k _) fun _ => hl.l0 _ _ _ _)
noncomputable def QK.Kl0 : List Item := .code (lopB (blkB (seqR (seqL (seqR (seqR QK.C)))))) :: .inLoop (lopB (blkB (seqR (seqL (seqR (seqR QK.C)))))) :: .inBlock 0 :: .code (seqR (seqR (seqR QK.C))) :: []
noncomputable def QK.Kj2 : List Item := .code (seqR (seqR (seqR (blkB (seqL (seqR (seqR (lopB (blkB (seqR (seqL (seqR (seqR QK.C))))))))))))) :: .inBlock 1 :: .code (seqR (seqR (seqR (lopB (blkB (seqR (seqL (seqR (seqR QK.C))))))))) :: .inLoop (lopB (blkB (seqR (seqL (seqR (seqR QK.C)))))) :: .inBlock 0 :: .code (seqR (seqR (seqR QK.C))) :: []
structure QK.OK (h : QK.Hs) : Prop where
 l0 : ∀ {H0 H : Hp} {L : Items} {r : (List Int)} {jk_ : Nat → Value} {n : Int} {out : List Int} {t11 : Int} {t12 : Int} {v_out : Value} {i_out : Item'} (_ : H0.le H) (_he : h.l0 n out t11 t12 = some r) (_h_out : Sl kU32 H 167 i_out v_out out), Wp Tryz.prog 118 44 QK.Kl0 (upd (upd (upd (upd (upd jk_ 1 (.int .i64 n)) 4 (.slice none 0 0)) 5 (v_out)) 11 (.int .i64 t11)) 12 (.int .i64 t12)) H (i_out :: L) (QK.R H0 L r)
theorem QK.j2_ok {k : Nat} {h : QK.Hs} (hh : QK.OK h) {H0 H : Hp} {L : Items} {r : (List Int)} {jk_ : Nat → Value} {n : Int} {out : List Int} {i v_ t11 t12 : Int} {v_out : Value} {i_out : Item'} (hle : H0.le H) (he : QK.j2 k h n out i v_ t11 t12 = some r) (h_out : Sl kU32 H 167 i_out v_out out) : Wp Tryz.prog 118 44 QK.Kj2 (upd (upd (upd (upd (upd (upd (upd jk_ 1 (.int .i64 n)) 4 (.slice none 0 0)) 5 (v_out)) 6 (.int .i64 i)) 7 (.int .u64 v_)) 11 (.int .i64 t11)) 12 (.int .i64 t12)) H (i_out :: L) (QK.R H0 L r) := by
 unfold QK.j2 at he
 unfold QK.Kj2
 refine QL rfl <| wM v_out rfl rfl <| wM (.int .i64 i) rfl rfl <| wM (.int .u64 v_) rfl rfl <| wM (.int .i64 n) rfl rfl <| rK he fun c23 he => w_d rfl (Jb (c := v_ / 2 ^ shn .u64 n) rfl rfl c23 rfl) <| w_d rfl (Yd (c := (v_ / 2 ^ shn .u64 n) % 4294967296) Tryz.underlying113 Tryz.underlying167 rfl rfl) <| rK he fun c24 he => w_d rfl (YM (sz := 1) Tryz.underlying22 sz167 rfl h_out.shp rfl c24) <| w_a0 rfl (Y1 (kd := kU32) (v := .int .u32 ((v_ / 2 ^ shn .u64 n) % 4294967296)) (F := fun z_ => z_ :: L) sz167 rfl rfl rfl rfl h_out c24 (fun _ => .here)) ?_
 rintro _ _ _ ⟨i25, rfl, rfl, rfl, h26⟩
 refine Qb <| Xw <| QL rfl <| w_d rfl (XQ (c := w64 (t12 + 1)) rfl rfl rfl) <| wM (.int .i64 (w64 (t12 + 1))) rfl rfl <| Qb <| XG <| w_sl 1 (.int .i64 n) rfl <| w_sl 4 (.slice none 0 0) rfl <| w_sl 5 (v_out) rfl <| w_sl 11 (.int .i64 t11) rfl <| w_sl 12 (.int .i64 (w64 (t12 + 1))) rfl <| hh.l0 hle he h26
theorem QK.b0_ok {k : Nat} {h : QK.Hs} (hh : QK.OK h) {H0 H : Hp} {L : Items} {r : (List Int)} {jk_ : Nat → Value} {n : Int} {out : List Int} {t11 t12 : Int} {v_out : Value} {i_out : Item'} (hle : H0.le H) (he : QK.b0 k h n out t11 t12 = some r) (h_out : Sl kU32 H 167 i_out v_out out) : Wp Tryz.prog 118 44 QK.Kl0 (upd (upd (upd (upd (upd jk_ 1 (.int .i64 n)) 4 (.slice none 0 0)) 5 (v_out)) 11 (.int .i64 t11)) 12 (.int .i64 t12)) H (i_out :: L) (QK.R H0 L r) := by
 unfold QK.b0 at he
 unfold QK.Kl0
 refine wR rfl <| w_d rfl (XW rfl rfl) <| wE ?_
 rcases its he with ⟨c10, he⟩ | ⟨c10, he⟩
 ·
  refine QD rfl (dt c10) <| QF <| QX <| Q2 <| wR rfl <| wM (.int .i64 t12) rfl rfl <| wA (.int .i64 t12) rfl rfl <| wQ rfl <| wM v_out rfl rfl ?_
  refine wM (.int .i64 t12) rfl rfl <| rK he fun c11 he => w_d rfl (YM (sz := 1) Tryz.underlying22 sz167 rfl h_out.shp rfl c11) <| w_d rfl (XR ty167 rfl (h_out.src .here) c11) <| w_d rfl (Yd (c := (rd out t12) % 18446744073709551616) Tryz.underlying167 Tryz.underlying113 rfl rfl) <| wA (.int .u64 ((rd out t12) % 18446744073709551616)) rfl rfl <| wE <| wR rfl <| wM (.int .i64 t12) rfl rfl <| w_d rfl (XQ (c := w64 (t12 + 1)) rfl rfl rfl) ?_
  refine wM v_out rfl rfl <| w_d rfl (Gd Tryz.underlying22 rfl h_out.shp) <| w_d rfl (XW rfl rfl) <| Qb ?_
  rcases its he with ⟨c12, he⟩ | ⟨c12, he⟩
  ·
   refine QD rfl (dt c12) <| QL rfl <| wM (.int .u64 ((rd out t12) % 18446744073709551616)) rfl rfl <| wM v_out rfl rfl <| wM (.int .i64 t12) rfl rfl <| w_d rfl (XQ (c := w64 (t12 + 1)) rfl rfl rfl) <| rK he fun c13 he => w_d rfl (YM (sz := 1) Tryz.underlying22 sz167 rfl h_out.shp rfl c13) <| w_d rfl (XR ty167 rfl (h_out.src .here) c13) <| w_d rfl (Yd (c := (rd out (w64 (t12 + 1))) % 18446744073709551616) Tryz.underlying167 Tryz.underlying113 rfl rfl) <| w_d rfl (Gq (c := (((rd out (w64 (t12 + 1))) % 18446744073709551616) * 4294967296) % 18446744073709551616) rfl rfl (by decide) rfl) <| w_d rfl (Gu rfl rfl) ?_
   refine wA (.int .u64 (ior .u64 ((rd out t12) % 18446744073709551616) ((((rd out (w64 (t12 + 1))) % 18446744073709551616) * 4294967296) % 18446744073709551616))) rfl rfl <| Qb <| w_sl 1 (.int .i64 n) rfl <| w_sl 4 (.slice none 0 0) rfl <| w_sl 5 (v_out) rfl <| w_sl 6 (.int .i64 t12) rfl <| w_sl 7 (.int .u64 (ior .u64 ((rd out t12) % 18446744073709551616) ((((rd out (w64 (t12 + 1))) % 18446744073709551616) * 4294967296) % 18446744073709551616))) rfl <| w_sl 11 (.int .i64 t11) rfl <| w_sl 12 (.int .i64 t12) rfl <| QK.j2_ok (k := k) hh hle he h_out
  ·
   refine QE rfl (df c12) <| QF <| w_sl 1 (.int .i64 n) rfl <| w_sl 4 (.slice none 0 0) rfl <| w_sl 5 (v_out) rfl <| w_sl 6 (.int .i64 t12) rfl <| w_sl 7 (.int .u64 ((rd out t12) % 18446744073709551616)) rfl <| w_sl 11 (.int .i64 t11) rfl <| w_sl 12 (.int .i64 t12) rfl <| QK.j2_ok (k := k) hh hle he h_out
 ·
  refine QE rfl (df c10) <| X3 rfl <| wR rfl <| wM v_out rfl rfl <| Yx h_out .here ?_
  intro H14 e15 h16
  refine bK he fun y17 hy18 he => w_a rfl (Qm co113 (vs := [v_out]) rfl (QU.calls k hy18 h16)) ?_
  rintro v21 H19 _ ⟨rfl, e20, h22⟩
  refine wA v21 rfl rfl <| Qb ?_
  obtain rfl := sj he
  refine Ql fn_118 rs_118 (.tmp (v := v21) rfl .nil) <| ⟨⟨[_], rfl⟩, hle.trans (e15.trans e20), h22⟩
theorem QK.ok : ∀ k, QK.OK (QK.hs k)
 | 0 => ⟨(by intros; exact nomatch (show none = some _ from by assumption))⟩
 | k + 1 => ⟨QK.b0_ok (k := k) (QK.ok k)⟩
theorem QK.calls (k : Nat) {H : Hp} {L : Items} {w : List Int} {n : Int} {v0_w : Value} {r : (List Int)} (he : QK.f k w n = some r) (h0_w : Ro kU32 H v0_w w) : Ct Tryz.prog 118 ⟨[v0_w, .int .i64 n]⟩ H L (cR H L (QK.out r)) := by
 refine XN (O := QK.out r) ?_
 have hle : H.le H := .refl _
 have hh := QK.ok k
 unfold QK.f at he
 refine QV (args := [_, _]) fn_118 rfl nt_118 rfl <| wR rfl <| wA (.slice none 0 0) rfl rfl <| wQ rfl <| wM v0_w rfl rfl <| bK he fun y1 hy2 he => w_a rfl (Qm co119 (vs := [v0_w]) rfl (Xb.calls k hy2 h0_w)) ?_
 rintro v7 H3 _ ⟨i8, rfl, e4, h9⟩
 refine wA v7 rfl rfl <| wE <| wR rfl <| wM v7 rfl rfl <| w_d rfl (Gd Tryz.underlying22 rfl h9.shp) <| wM (.int .i64 0) rfl rfl <| Qb <| Q2 <| X5 <| w_sl 1 (.int .i64 n) rfl ?_
 refine w_sl 4 (.slice none 0 0) rfl <| w_sl 5 (v7) rfl <| w_sl 11 (.int .i64 (y1.length : Int)) rfl <| w_sl 12 (.int .i64 0) rfl <| hh.l0 (hle.trans e4) he h9
noncomputable def Xy.C : Code := (Tryz.f121.body).getD .skip
def Xy.out (r : Qv) (H : Hp) (v : Value) : Prop := ∃ v0, v = (Qd r v0) ∧ Ro kU32 H v0 r.f_w
theorem Xy.out_mono (r : Qv) {H H' : Hp} {v : Value} (hle : H.le H') (h : Xy.out r H v) : Xy.out r H' v := by
 obtain ⟨v0, rfl, h0⟩ := h; exact ⟨v0, rfl, h0.mono hle⟩
noncomputable def Xy.f (k : Nat) (a : Qv) : Option Qv := some (⟨(!a.f_neg) && (decide (0 < (a.f_w.length : Int))), a.f_w⟩)
theorem Xy.mono : ∀ k y0, LeO (Xy.f k y0) (Xy.f (k + 1) y0) := fun k _ => by unfold Xy.f; exact (LeO.refl _)
theorem Xy.calls (k : Nat) {H : Hp} {L : Items} {a : Qv} {v0_a : Value} {r : Qv} (he : Xy.f k a = some r) (h0_a : Ro kU32 H v0_a a.f_w) : Ct Tryz.prog 121 ⟨[(Qd a v0_a)]⟩ H L (cR H L (Xy.out r)) := by
 refine XN (O := Xy.out r) ?_
 have hle : H.le H := .refl _
 unfold Xy.f at he
 refine QV (args := [_]) fn_121 rfl nt_121 rfl <| wR rfl <| wB (Qd a v0_a) rfl rfl rfl <| fun b1 => wN zr24 rfl rfl fun b2 => wQ rfl <| w_d rfl (Xi (o' := 0) Tryz.underlying24 rfl sz4 rfl rfl rfl) <| wL (.bool a.f_neg) ty4 rfl rfl .h1 rfl rfl <| w_d rfl (Zs (b := a.f_neg) rfl) <| wM (.bool (!a.f_neg)) rfl rfl ?_
 refine w_g (g := !a.f_neg) rfl rfl rfl wn_t (fun g3 => Xi (o' := 1) Tryz.underlying24 rfl sz22 rfl rfl rfl) <| w_g (g := !a.f_neg) rfl rfl rfl wn_t (fun g4 => QN (v := v0_a) ty22 (cvt g4) .h1 rfl rfl rfl rfl) <| w_g (g := !a.f_neg) rfl rfl rfl wn_t (fun g5 => Xo Tryz.underlying22 (cvt g5) h0_a.src) <| w_g (g := !a.f_neg) rfl rfl rfl wn_t (fun g6 => YV (cvt g6) rfl) <| w_d rfl (d_and' (b := (!a.f_neg)) (p := (decide (0 < (a.f_w.length : Int)))) rfl rfl rfl) <| w_d rfl (Xi (o' := 1) Tryz.underlying24 rfl sz22 rfl rfl rfl) <| wL v0_a ty22 rfl rfl .h1 rfl rfl <| w_d rfl (XE (cs' := [.bool ((!a.f_neg) && (decide (0 < (a.f_w.length : Int)))), v0_a]) Tryz.underlying24 zr24 rfl (by kernel_rfl) (parts := [(0, .bool ((!a.f_neg) && (decide (0 < (a.f_w.length : Int))))), (1, v0_a)]) rfl (.cons (YH rfl sz4 rfl) rfl rfl u1 (.cons (YH rfl sz22 rfl) h0_a.cells rfl (.there u1) .nil))) <| wS (.agg ⟨[.bool ((!a.f_neg) && (decide (0 < (a.f_w.length : Int)))), v0_a]⟩) sz24 rfl rfl rfl rfl rfl (oc rfl (oc (h0_a.one) oz)) .here u2 <| Qb ?_
 obtain rfl := sj he
 refine Ql fn_121 rs_121 (.box (v := .agg ⟨[.bool ((!a.f_neg) && (decide (0 < (a.f_w.length : Int)))), v0_a]⟩) rfl ty24 rfl rfl .here rfl .nil) <| ⟨⟨[_, _], rfl⟩, hle, ⟨v0_a, rfl, h0_a⟩⟩
noncomputable def Qy.C : Code := (Tryz.f144.body).getD .skip
abbrev Qy.out (r : (List Int)) (H : Hp) (v : Value) : Prop := Ro kU32 H v r
abbrev Qy.R (H0 : Hp) (L : Items) (r : (List Int)) := fR H0 L (Qy.out r)
structure Qy.Hs where
 l0 : (List Int) → (List Int) → Int → (List Int) → Int → Int → Option (List Int)
noncomputable def Qy.j1 (k : Nat) (h : Qy.Hs) (a b : List Int) : Option (List Int) := if 0 ≤ 0 ∧ 0 ≤ w64 ((a.length : Int) + 1) ∧ w64 ((a.length : Int) + 1) ≤ 70368744177664 then (h.l0 b (List.replicate (0 : Int).toNat (0 : Int)) 0 a (a.length : Int) 0) else none
noncomputable def Qy.j3 (k : Nat) (h : Qy.Hs) (b out : List Int) (carry s : Int) (t21 : List Int) (t22 t23 : Int) : Option (List Int) := if out.length + 1 ≤ 35184372088704 then (h.l0 b (out ++ [(s) % 4294967296]) (s / 4294967296) t21 t22 (w64 (t23 + 1))) else none
noncomputable def Qy.b0 (k : Nat) (h : Qy.Hs) (b out : List Int) (carry : Int) (t21 : List Int) (t22 t23 : Int) : Option (List Int) := if t23 < t22 then (if (0 : Int) ≤ t23 ∧ t23 < (t21.length : Int) then (if t23 < (b.length : Int) then (if (0 : Int) ≤ t23 ∧ t23 < (b.length : Int) then (Qy.j3 k h b out carry ((((((rd t21 t23) % 18446744073709551616) + carry) % 18446744073709551616) + ((rd b t23) % 18446744073709551616)) % 18446744073709551616) t21 t22 t23) else none) else (Qy.j3 k h b out carry ((((rd t21 t23) % 18446744073709551616) + carry) % 18446744073709551616) t21 t22 t23)) else none) else (if out.length + 1 ≤ 35184372088704 then (some (out ++ [(carry) % 4294967296])) else none)
noncomputable def Qy.hs : Nat → Qy.Hs
 | 0 => ⟨fun _ _ _ _ _ _ => none⟩
 | k + 1 => ⟨fun x0 x1 x2 x3 x4 x5 => Qy.b0 k (Qy.hs k) x0 x1 x2 x3 x4 x5⟩
noncomputable def Qy.f (k : Nat) (a b : List Int) : Option (List Int) := (fun h : Qy.Hs => if (a.length : Int) < (b.length : Int) then (Qy.j1 k h b a) else (Qy.j1 k h a b)) (Qy.hs k)
structure Qy.LE (h h' : Qy.Hs) : Prop where
 l0 : ∀ y0 y1 y2 y3 y4 y5, LeO (h.l0 y0 y1 y2 y3 y4 y5) (h'.l0 y0 y1 y2 y3 y4 y5)
theorem Qy.j1_mono {k : Nat} {h h' : Qy.Hs} (hl : Qy.LE h h') : ∀ y0 y1, LeO (Qy.j1 k h y0 y1) (Qy.j1 (k + 1) h' y0 y1) := fun _ _ => (LeO.ite (hl.l0 _ _ _ _ _ _) (LeO.refl _))
theorem Qy.j3_mono {k : Nat} {h h' : Qy.Hs} (hl : Qy.LE h h') : ∀ y0 y1 y2 y3 y4 y5 y6, LeO (Qy.j3 k h y0 y1 y2 y3 y4 y5 y6) (Qy.j3 (k + 1) h' y0 y1 y2 y3 y4 y5 y6) := fun _ _ _ _ _ _ _ => (LeO.ite (hl.l0 _ _ _ _ _ _) (LeO.refl _))
theorem Qy.b0_mono {k : Nat} {h h' : Qy.Hs} (hl : Qy.LE h h') : ∀ y0 y1 y2 y3 y4 y5, LeO (Qy.b0 k h y0 y1 y2 y3 y4 y5) (Qy.b0 (k + 1) h' y0 y1 y2 y3 y4 y5) := fun _ _ _ _ _ _ => (LeO.ite (LeO.ite (LeO.ite (LeO.ite (Qy.j3_mono (k := k) hl _ _ _ _ _ _ _) (LeO.refl _)) (Qy.j3_mono (k := k) hl _ _ _ _ _ _ _)) (LeO.refl _)) (LeO.ite (LeO.refl _) (LeO.refl _)))
theorem Qy.hs_mono : ∀ k, Qy.LE (Qy.hs k) (Qy.hs (k + 1))
 | 0 => ⟨fun _ _ _ _ _ _ => LeO.none _⟩
 | k + 1 => ⟨Qy.b0_mono (k := k) (Qy.hs_mono k)⟩
theorem Qy.mono : ∀ k y0 y1, LeO (Qy.f k y0 y1) (Qy.f (k + 1) y0 y1) := fun k _ _ => have hl := Qy.hs_mono k; by unfold Qy.f; exact (LeO.ite (Qy.j1_mono (k := k) hl _ _) (Qy.j1_mono (k := k) hl _ _))
noncomputable def Qy.Kj1 : List Item := .code (seqR (seqR Qy.C)) :: []
noncomputable def Qy.Kl0 : List Item := .code (lopB (blkB (seqR (seqL (seqR (seqR (seqR (seqR Qy.C)))))))) :: .inLoop (lopB (blkB (seqR (seqL (seqR (seqR (seqR (seqR Qy.C)))))))) :: .inBlock 0 :: .code (seqR (seqR (seqR (seqR (seqR Qy.C))))) :: []
noncomputable def Qy.Kj3 : List Item := .code (seqR (seqR (seqR (blkB (seqL (seqR (seqR (lopB (blkB (seqR (seqL (seqR (seqR (seqR (seqR Qy.C))))))))))))))) :: .inBlock 1 :: .code (seqR (seqR (seqR (lopB (blkB (seqR (seqL (seqR (seqR (seqR (seqR Qy.C))))))))))) :: .inLoop (lopB (blkB (seqR (seqL (seqR (seqR (seqR (seqR Qy.C)))))))) :: .inBlock 0 :: .code (seqR (seqR (seqR (seqR (seqR Qy.C))))) :: []
structure Qy.OK (h : Qy.Hs) : Prop where
 l0 : ∀ {H0 H : Hp} {L : Items} {r : (List Int)} {jk_ : Nat → Value} {b : List Int} {out : List Int} {carry : Int} {t21 : List Int} {t22 : Int} {t23 : Int} {v_b : Value} {v_out : Value} {v_t21 : Value} {i_out : Item'} (_ : H0.le H) (_he : h.l0 b out carry t21 t22 t23 = some r) (_h_b : Src kU32 H L v_b b) (_h_out : Sl kU32 H 167 i_out v_out out) (_h_t21 : Src kU32 H L v_t21 t21), Wp Tryz.prog 144 56 Qy.Kl0 (upd (upd (upd (upd (upd (upd (upd jk_ 1 (v_b)) 4 (.slice none 0 0)) 5 (v_out)) 6 (.int .u64 carry)) 21 (v_t21)) 22 (.int .i64 t22)) 23 (.int .i64 t23)) H (i_out :: L) (Qy.R H0 L r)
theorem Qy.j1_ok {k : Nat} {h : Qy.Hs} (hh : Qy.OK h) {H0 H : Hp} {L : Items} {r : (List Int)} {jk_ : Nat → Value} {a b : List Int} {v_a v_b : Value} (hle : H0.le H) (he : Qy.j1 k h a b = some r) (h_a : Src kU32 H L v_a a) (h_b : Src kU32 H L v_b b) : Wp Tryz.prog 144 56 Qy.Kj1 (upd (upd (upd jk_ 0 (v_a)) 1 (v_b)) 4 (.slice none 0 0)) H (L) (Qy.R H0 L r) := by
 unfold Qy.j1 at he
 unfold Qy.Kj1
 refine wR rfl <| wM v_a rfl rfl <| w_d rfl (Xo Tryz.underlying22 rfl h_a) <| w_d rfl (XQ (c := w64 ((a.length : Int) + 1)) rfl rfl rfl) <| rK he fun c2 he => w_a rfl (o_make' (kd := kU32) (z0 := 0) Tryz.underlying22 ti167 (zp167 _) rfl rfl (by omega) (by omega) (by omega)) ?_
 rintro v3 _ _ ⟨i4, rfl, rfl, h5⟩
 refine wA v3 rfl rfl <| wQ rfl <| wA (.int .u64 0) rfl rfl <| wE <| wR rfl <| wM v_a rfl rfl <| w_d rfl (Xo Tryz.underlying22 rfl h_a.th) <| wM (.int .i64 0) rfl rfl ?_
 refine Qb <| Q2 <| X5 <| w_sl 1 (v_b) rfl <| w_sl 4 (.slice none 0 0) rfl <| w_sl 5 (v3) rfl <| w_sl 6 (.int .u64 0) rfl <| w_sl 21 (v_a) rfl <| w_sl 22 (.int .i64 (a.length : Int)) rfl <| w_sl 23 (.int .i64 0) rfl <| hh.l0 hle he h_b h5 h_a
theorem Qy.j3_ok {k : Nat} {h : Qy.Hs} (hh : Qy.OK h) {H0 H : Hp} {L : Items} {r : (List Int)} {jk_ : Nat → Value} {b out : List Int} {carry s : Int} {t21 : List Int} {t22 t23 : Int} {v_b v_out v_t21 : Value} {i_out : Item'} (hle : H0.le H) (he : Qy.j3 k h b out carry s t21 t22 t23 = some r) (h_b : Src kU32 H L v_b b) (h_out : Sl kU32 H 167 i_out v_out out) (h_t21 : Src kU32 H L v_t21 t21) : Wp Tryz.prog 144 56 Qy.Kj3 (upd (upd (upd (upd (upd (upd (upd (upd jk_ 1 (v_b)) 4 (.slice none 0 0)) 5 (v_out)) 6 (.int .u64 carry)) 9 (.int .u64 s)) 21 (v_t21)) 22 (.int .i64 t22)) 23 (.int .i64 t23)) H (i_out :: L) (Qy.R H0 L r) := by
 unfold Qy.j3 at he
 unfold Qy.Kj3
 refine wR rfl <| wM v_out rfl rfl <| wM (.int .u64 s) rfl rfl <| w_d rfl (Yd (c := (s) % 4294967296) Tryz.underlying113 Tryz.underlying167 rfl rfl) <| w_a rfl (o_buildSlice' (kd := kU32) (css := [[.int .u32 ((s) % 4294967296)]]) (xs := [(s) % 4294967296]) (parts := [(0, .int .u32 ((s) % 4294967296))]) Tryz.underlying22 ti167 rfl ⟨_, _, rfl, rfl, rfl⟩ ⟨rfl, trivial⟩ rfl (by decide)) ?_
 rintro v20 _ _ ⟨i21, rfl, rfl, h22⟩
 refine rK he fun c23 he => w_a rfl (o_append' (kd := kU32) (F := fun z_ => i21 :: z_ :: L) Tryz.underlying22 Tryz.underlying22 ti167 rfl (by first | omega | (simp only [List.nil_append, List.length_cons, List.length_nil]; omega)) rfl rfl h_out (h22.src .here) (fun _ => .h1)) ?_
 rintro v24 _ _ ⟨i25, rfl, rfl, h26⟩
 refine wA v24 rfl rfl <| Qb <| QL rfl <| wM (.int .u64 s) rfl rfl <| w_d rfl (Jb (c := s / 4294967296) rfl rfl (by decide) rfl) <| wA (.int .u64 (s / 4294967296)) rfl rfl <| Qb <| Xw <| QL rfl <| w_d rfl (XQ (c := w64 (t23 + 1)) rfl rfl rfl) <| wM (.int .i64 (w64 (t23 + 1))) rfl rfl <| Qb ?_
 refine XG <| Yu .here <| w_sl 1 (v_b) rfl <| w_sl 4 (.slice none 0 0) rfl <| w_sl 5 (v24) rfl <| w_sl 6 (.int .u64 (s / 4294967296)) rfl <| w_sl 21 (v_t21) rfl <| w_sl 22 (.int .i64 t22) rfl <| w_sl 23 (.int .i64 (w64 (t23 + 1))) rfl <| hh.l0 hle he h_b h26 h_t21
theorem Qy.b0_ok {k : Nat} {h : Qy.Hs} (hh : Qy.OK h) {H0 H : Hp} {L : Items} {r : (List Int)} {jk_ : Nat → Value} {b out : List Int} {carry : Int} {t21 : List Int} {t22 t23 : Int} {v_b v_out v_t21 : Value} {i_out : Item'} (hle : H0.le H) (he : Qy.b0 k h b out carry t21 t22 t23 = some r) (h_b : Src kU32 H L v_b b) (h_out : Sl kU32 H 167 i_out v_out out) (h_t21 : Src kU32 H L v_t21 t21) : Wp Tryz.prog 144 56 Qy.Kl0 (upd (upd (upd (upd (upd (upd (upd jk_ 1 (v_b)) 4 (.slice none 0 0)) 5 (v_out)) 6 (.int .u64 carry)) 21 (v_t21)) 22 (.int .i64 t22)) 23 (.int .i64 t23)) H (i_out :: L) (Qy.R H0 L r) := by
 unfold Qy.b0 at he
 unfold Qy.Kl0
 refine wR rfl <| w_d rfl (XW rfl rfl) <| wE ?_
 rcases its he with ⟨c6, he⟩ | ⟨c6, he⟩
 ·
  refine QD rfl (dt c6) <| QF <| QX <| Q2 <| wR rfl <| wM (.int .i64 t23) rfl rfl <| rK he fun c7 he => w_d rfl (XA (sz := 1) Tryz.underlying22 sz167 rfl h_t21.th rfl c7) <| w_d rfl (XR ty167 rfl h_t21.th c7) <| wA (.int .i64 t23) rfl rfl <| wA (.int .u32 (rd t21 t23)) rfl rfl ?_
  refine wQ rfl <| wM (.int .u32 (rd t21 t23)) rfl rfl <| w_d rfl (Yd (c := (rd t21 t23) % 18446744073709551616) Tryz.underlying167 Tryz.underlying113 rfl rfl) <| wM (.int .u64 carry) rfl rfl <| w_d rfl (XQ (c := (((rd t21 t23) % 18446744073709551616) + carry) % 18446744073709551616) rfl rfl rfl) <| wA (.int .u64 ((((rd t21 t23) % 18446744073709551616) + carry) % 18446744073709551616)) rfl rfl <| wE <| wR rfl ?_
  refine wM (.int .i64 t23) rfl rfl <| wM v_b rfl rfl <| w_d rfl (Xo Tryz.underlying22 rfl h_b.th) <| w_d rfl (XW rfl rfl) <| Qb ?_
  rcases its he with ⟨c8, he⟩ | ⟨c8, he⟩
  ·
   refine QD rfl (dt c8) <| QL rfl <| wM (.int .u64 ((((rd t21 t23) % 18446744073709551616) + carry) % 18446744073709551616)) rfl rfl <| wM v_b rfl rfl <| wM (.int .i64 t23) rfl rfl <| rK he fun c9 he => w_d rfl (XA (sz := 1) Tryz.underlying22 sz167 rfl h_b.th rfl c9) <| w_d rfl (XR ty167 rfl h_b.th c9) <| w_d rfl (Yd (c := (rd b t23) % 18446744073709551616) Tryz.underlying167 Tryz.underlying113 rfl rfl) <| w_d rfl (XQ (c := (((((rd t21 t23) % 18446744073709551616) + carry) % 18446744073709551616) + ((rd b t23) % 18446744073709551616)) % 18446744073709551616) rfl rfl rfl) <| wA (.int .u64 ((((((rd t21 t23) % 18446744073709551616) + carry) % 18446744073709551616) + ((rd b t23) % 18446744073709551616)) % 18446744073709551616)) rfl rfl <| Qb ?_
   refine w_sl 1 (v_b) rfl <| w_sl 4 (.slice none 0 0) rfl <| w_sl 5 (v_out) rfl <| w_sl 6 (.int .u64 carry) rfl <| w_sl 9 (.int .u64 ((((((rd t21 t23) % 18446744073709551616) + carry) % 18446744073709551616) + ((rd b t23) % 18446744073709551616)) % 18446744073709551616)) rfl <| w_sl 21 (v_t21) rfl <| w_sl 22 (.int .i64 t22) rfl <| w_sl 23 (.int .i64 t23) rfl <| Qy.j3_ok (k := k) hh hle he h_b h_out h_t21
  ·
   refine QE rfl (df c8) <| QF <| w_sl 1 (v_b) rfl <| w_sl 4 (.slice none 0 0) rfl <| w_sl 5 (v_out) rfl <| w_sl 6 (.int .u64 carry) rfl <| w_sl 9 (.int .u64 ((((rd t21 t23) % 18446744073709551616) + carry) % 18446744073709551616)) rfl <| w_sl 21 (v_t21) rfl <| w_sl 22 (.int .i64 t22) rfl <| w_sl 23 (.int .i64 t23) rfl <| Qy.j3_ok (k := k) hh hle he h_b h_out h_t21
 ·
  refine QE rfl (df c6) <| X3 rfl <| wR rfl <| wM v_out rfl rfl <| wM (.int .u64 carry) rfl rfl <| w_d rfl (Yd (c := (carry) % 4294967296) Tryz.underlying113 Tryz.underlying167 rfl rfl) <| w_a rfl (o_buildSlice' (kd := kU32) (css := [[.int .u32 ((carry) % 4294967296)]]) (xs := [(carry) % 4294967296]) (parts := [(0, .int .u32 ((carry) % 4294967296))]) Tryz.underlying22 ti167 rfl ⟨_, _, rfl, rfl, rfl⟩ ⟨rfl, trivial⟩ rfl (by decide)) ?_
  rintro v10 _ _ ⟨i11, rfl, rfl, h12⟩
  refine rK he fun c13 he => w_a rfl (o_append' (kd := kU32) (F := fun z_ => i11 :: z_ :: L) Tryz.underlying22 Tryz.underlying22 ti167 rfl (by first | omega | (simp only [List.nil_append, List.length_cons, List.length_nil]; omega)) rfl rfl h_out (h12.src .here) (fun _ => .h1)) ?_
  rintro v14 _ _ ⟨i15, rfl, rfl, h16⟩
  refine wA v14 rfl rfl <| Qb <| Yx h16 .h1 ?_
  intro H17 e18 h19
  obtain rfl := sj he
  refine Ql fn_144 rs_144 (.tmp (v := v14) rfl .nil) <| ⟨⟨[_, _], rfl⟩, hle.trans e18, h19⟩
theorem Qy.ok : ∀ k, Qy.OK (Qy.hs k)
 | 0 => ⟨(by intros; exact nomatch (show none = some _ from by assumption))⟩
 | k + 1 => ⟨Qy.b0_ok (k := k) (Qy.ok k)⟩
theorem Qy.calls (k : Nat) {H : Hp} {L : Items} {a b : List Int} {v0_a v1_b : Value} {r : (List Int)} (he : Qy.f k a b = some r) (h0_a : Src kU32 H L v0_a a) (h1_b : Src kU32 H L v1_b b) : Ct Tryz.prog 144 ⟨[v0_a, v1_b]⟩ H L (cR H L (Qy.out r)) := by
 refine XN (O := Qy.out r) ?_
 have hle : H.le H := .refl _
 have hh := Qy.ok k
 unfold Qy.f at he
 refine QV (args := [_, _]) fn_144 rfl nt_144 rfl <| wR rfl <| wA (.slice none 0 0) rfl rfl <| wE <| wR rfl <| wM v0_a rfl rfl <| w_d rfl (Xo Tryz.underlying22 rfl h0_a) <| wM v1_b rfl rfl <| w_d rfl (Xo Tryz.underlying22 rfl h1_b) ?_
 refine w_d rfl (XW rfl rfl) <| Qb ?_
 rcases its he with ⟨c1, he⟩ | ⟨c1, he⟩
 ·
  refine QD rfl (dt c1) <| QL rfl <| wM v1_b rfl rfl <| wM v0_a rfl rfl <| wA v1_b rfl rfl <| wA v0_a rfl rfl <| Qb <| w_sl 0 (v1_b) rfl <| w_sl 1 (v0_a) rfl <| w_sl 4 (.slice none 0 0) rfl <| Qy.j1_ok (k := k) hh hle he h1_b h0_a
 ·
  refine QE rfl (df c1) <| QF <| w_sl 0 (v0_a) rfl <| w_sl 1 (v1_b) rfl <| w_sl 4 (.slice none 0 0) rfl <| Qy.j1_ok (k := k) hh hle he h0_a h1_b
noncomputable def Yr.C : Code := (Tryz.f153.body).getD .skip
def Yr.out (r : Bool) (H : Hp) (v : Value) : Prop := v = .bool r
noncomputable def Yr.f (k : Nat) (x : Int) : Option Bool := some (!decide (x = x))
theorem Yr.mono : ∀ k y0, LeO (Yr.f k y0) (Yr.f (k + 1) y0) := fun k _ => by unfold Yr.f; exact (LeO.refl _)
theorem Yr.calls (k : Nat) {H : Hp} {L : Items} {x : Int} {r : Bool} (he : Yr.f k x = some r) : Ct Tryz.prog 153 ⟨[.int .i64 x]⟩ H L (fun v H' L' => L = L' ∧ H = H' ∧ v = .bool r) := by
 refine Yp (O := Yr.out r) (fun _ _ h => h) ?_
 have hle : H.le H := .refl _
 unfold Yr.f at he
 refine QV (args := [_]) fn_153 rfl nt_153 rfl <| wR rfl <| wA (.bool false) rfl rfl <| wQ rfl <| wM (.int .i64 x) rfl rfl <| wM (.int .i64 x) rfl rfl <| w_d rfl (Zl rfl rfl) <| wA (.bool (!decide (x = x))) rfl rfl <| Qb ?_
 obtain rfl := sj he
 refine Ql fn_153 rs_153 (.tmp (v := .bool (!decide (x = x))) rfl .nil) <| ⟨⟨[], rfl⟩, hle, rfl⟩
noncomputable def Yc.C : Code := (Tryz.f136.body).getD .skip
def Yc.out (r : Int) (H : Hp) (v : Value) : Prop := v = .int .i64 r
noncomputable def Yc.f (k : Nat) (x y : Int) : Option Int := (Yr.f k x).bind fun y1 => (Yr.f k y).bind fun y5 => if y1 = true then (if y5 = true then (some (0)) else (some ((-1)))) else (if y5 = true then (some (1)) else (if x < y then (some ((-1))) else (if y < x then (some (1)) else (some (0)))))
theorem Yc.mono : ∀ k y0 y1, LeO (Yc.f k y0 y1) (Yc.f (k + 1) y0 y1) := fun k _ _ => by unfold Yc.f; exact (LeO.bind (Yr.mono k _) fun _ => LeO.bind (Yr.mono k _) fun _ => LeO.ite (LeO.ite (LeO.refl _) (LeO.refl _)) (LeO.ite (LeO.refl _) (LeO.ite (LeO.refl _) (LeO.ite (LeO.refl _) (LeO.refl _)))))
theorem Yc.calls (k : Nat) {H : Hp} {L : Items} {x y r : Int} (he : Yc.f k x y = some r) : Ct Tryz.prog 136 ⟨[.int .i64 x, .int .i64 y]⟩ H L (fun v H' L' => L = L' ∧ H = H' ∧ v = .int .i64 r) := by
 refine Yp (O := Yc.out r) (fun _ _ h => h) ?_
 have hle : H.le H := .refl _
 unfold Yc.f at he
 refine QV (args := [_, _]) fn_136 rfl nt_136 rfl <| wR rfl <| wA (.int .i64 0) rfl rfl <| wQ rfl <| wM (.int .i64 x) rfl rfl <| bK he fun y1 hy2 he => w_d rfl (Xx (Qm co153 (vs := [.int .i64 x]) rfl (Yr.calls k hy2))) <| wA (.bool y1) rfl rfl <| Qb ?_
 refine wR rfl <| wM (.int .i64 y) rfl rfl <| bK he fun y5 hy6 he => w_d rfl (Xx (Qm co153 (vs := [.int .i64 y]) rfl (Yr.calls k hy6))) <| wA (.bool y5) rfl rfl <| wE <| wR rfl <| wM (.bool y1) rfl rfl <| Qb ?_
 rcases its he with ⟨c9, he⟩ | ⟨c9, he⟩
 ·
  refine QD rfl c9 <| QX <| wR rfl <| wM (.bool y5) rfl rfl <| Qb ?_
  rcases its he with ⟨c10, he⟩ | ⟨c10, he⟩
  ·
   refine QD rfl c10 <| wR rfl <| wA (.int .i64 0) rfl rfl <| Qb ?_
   obtain rfl := sj he
   refine Ql fn_136 rs_136 (.tmp (v := .int .i64 0) rfl .nil) <| ⟨⟨[], rfl⟩, hle, rfl⟩
  ·
   refine QE rfl (Bool.eq_false_iff.2 c10) <| QF <| wR rfl <| wA (.int .i64 (-1)) rfl rfl <| Qb ?_
   obtain rfl := sj he
   refine Ql fn_136 rs_136 (.tmp (v := .int .i64 (-1)) rfl .nil) <| ⟨⟨[], rfl⟩, hle, rfl⟩
 ·
  refine QE rfl (Bool.eq_false_iff.2 c9) <| QF <| QX <| wR rfl <| wM (.bool y5) rfl rfl <| Qb ?_
  rcases its he with ⟨c11, he⟩ | ⟨c11, he⟩
  ·
   refine QD rfl c11 <| wR rfl <| wA (.int .i64 1) rfl rfl <| Qb ?_
   obtain rfl := sj he
   refine Ql fn_136 rs_136 (.tmp (v := .int .i64 1) rfl .nil) <| ⟨⟨[], rfl⟩, hle, rfl⟩
  ·
   refine QE rfl (Bool.eq_false_iff.2 c11) <| QF <| QX <| wR rfl <| wM (.int .i64 x) rfl rfl <| wM (.int .i64 y) rfl rfl <| w_d rfl (XW rfl rfl) <| Qb ?_
   rcases its he with ⟨c12, he⟩ | ⟨c12, he⟩
   ·
    refine QD rfl (dt c12) <| wR rfl <| wA (.int .i64 (-1)) rfl rfl <| Qb ?_
    obtain rfl := sj he
    refine Ql fn_136 rs_136 (.tmp (v := .int .i64 (-1)) rfl .nil) <| ⟨⟨[], rfl⟩, hle, rfl⟩
   ·
    refine QE rfl (df c12) <| QF <| QX <| wR rfl <| wM (.int .i64 x) rfl rfl <| wM (.int .i64 y) rfl rfl <| w_d rfl (YV rfl rfl) <| Qb ?_
    rcases its he with ⟨c13, he⟩ | ⟨c13, he⟩
    ·
     refine QD rfl (dt c13) <| wR rfl <| wA (.int .i64 1) rfl rfl <| Qb ?_
     obtain rfl := sj he
     refine Ql fn_136 rs_136 (.tmp (v := .int .i64 1) rfl .nil) <| ⟨⟨[], rfl⟩, hle, rfl⟩
    ·
     refine QE rfl (df c13) <| QF <| wR rfl <| wA (.int .i64 0) rfl rfl <| Qb ?_
     obtain rfl := sj he
     refine Ql fn_136 rs_136 (.tmp (v := .int .i64 0) rfl .nil) <| ⟨⟨[], rfl⟩, hle, rfl⟩
noncomputable def X8.C : Code := (Tryz.f166.body).getD .skip
def X8.out (r : Bool) (H : Hp) (v : Value) : Prop := v = .bool r
noncomputable def X8.f (k : Nat) (x : Int) : Option Bool := some (!decide (x = x))
theorem X8.mono : ∀ k y0, LeO (X8.f k y0) (X8.f (k + 1) y0) := fun k _ => by unfold X8.f; exact (LeO.refl _)
theorem X8.calls (k : Nat) {H : Hp} {L : Items} {x : Int} {r : Bool} (he : X8.f k x = some r) : Ct Tryz.prog 166 ⟨[.int .u32 x]⟩ H L (fun v H' L' => L = L' ∧ H = H' ∧ v = .bool r) := by
 refine Yp (O := X8.out r) (fun _ _ h => h) ?_
 have hle : H.le H := .refl _
 unfold X8.f at he
 refine QV (args := [_]) fn_166 rfl nt_166 rfl <| wR rfl <| wA (.bool false) rfl rfl <| wQ rfl <| wM (.int .u32 x) rfl rfl <| wM (.int .u32 x) rfl rfl <| w_d rfl (Zl rfl rfl) <| wA (.bool (!decide (x = x))) rfl rfl <| Qb ?_
 obtain rfl := sj he
 refine Ql fn_166 rs_166 (.tmp (v := .bool (!decide (x = x))) rfl .nil) <| ⟨⟨[], rfl⟩, hle, rfl⟩
end Go.Proofs.YtkccpkccdbfomaaGreatDoor.GBP

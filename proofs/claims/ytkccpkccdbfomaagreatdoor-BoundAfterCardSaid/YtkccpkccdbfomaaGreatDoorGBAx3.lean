/- printed by gen.py -/
import Derived.Test.YtkccpkccdbfomaaGreatDoorGBAx2
namespace Go.Proofs.YtkccpkccdbfomaaGreatDoor.GBA
open Go Go.RowKit Go.Proofs.YtkccpkccdbfomaaGreatDoorK Go.Proofs.YtkccpkccdbfomaaGreatDoor
set_option maxRecDepth 100000
set_option maxHeartbeats 2000000
set_option linter.unusedVariables false
set_option linter.unusedSimpArgs false
noncomputable def QK.C : Code := (Tryz.f118.body).getD .skip
abbrev QK.out (r : (List Int)) (H : Hp) (v : Value) : Prop := Ro kU32 H v r
abbrev QK.R (H0 : Hp) (L : Items) (r : (List Int)) := fR H0 L (QK.out r)
structure QK.Hs where
 l0 : Int → (List Int) → Int → Int → Option (List Int)
noncomputable def QK.j2 (k : Nat) (h : QK.Hs) (n : Int) (out : List Int) (i v_ t11 t12 : Int) : Option (List Int) := if 0 ≤ n then (if (0 : Int) ≤ i ∧ i < (out.length : Int) then (h.l0 n (out.set (i : Int).toNat ((v_ / 2 ^ shn .u64 n) % 4294967296)) t11 (w64 (t12 + 1))) else none) else none
noncomputable def QK.b0 (k : Nat) (h : QK.Hs) (n : Int) (out : List Int) (t11 t12 : Int) : Option (List Int) := if t12 < t11 then (if (0 : Int) ≤ t12 ∧ t12 < (out.length : Int) then (if (w64 (t12 + 1)) < (out.length : Int) then (if (0 : Int) ≤ w64 (t12 + 1) ∧ w64 (t12 + 1) < (out.length : Int) then (QK.j2 k h n out t12 (ior .u64 ((rd out t12) % 18446744073709551616) ((((rd out (w64 (t12 + 1))) % 18446744073709551616) * 4294967296) % 18446744073709551616)) t11 t12) else none) else (QK.j2 k h n out t12 ((rd out t12) % 18446744073709551616) t11 t12)) else none) else ((QS.f k out).bind fun y17 => some (y17))
noncomputable def QK.hs : Nat → QK.Hs
 | 0 => ⟨fun _ _ _ _ => none⟩
 | k + 1 => ⟨fun x0 x1 x2 x3 => QK.b0 k (QK.hs k) x0 x1 x2 x3⟩
noncomputable def QK.f (k : Nat) (w : List Int) (n : Int) : Option (List Int) := (fun h : QK.Hs => (Q8.f k w).bind fun y1 => h.l0 n y1 (y1.length : Int) 0) (QK.hs k)
structure QK.LE (h h' : QK.Hs) : Prop where
 l0 : ∀ y0 y1 y2 y3, LeO (h.l0 y0 y1 y2 y3) (h'.l0 y0 y1 y2 y3)
theorem QK.j2_mono {k : Nat} {h h' : QK.Hs} (hl : QK.LE h h') : ∀ y0 y1 y2 y3 y4 y5, LeO (QK.j2 k h y0 y1 y2 y3 y4 y5) (QK.j2 (k + 1) h' y0 y1 y2 y3 y4 y5) := fun _ _ _ _ _ _ => (LeO.ite (LeO.ite (hl.l0 _ _ _ _) (LeO.refl _)) (LeO.refl _))
theorem QK.b0_mono {k : Nat} {h h' : QK.Hs} (hl : QK.LE h h') : ∀ y0 y1 y2 y3, LeO (QK.b0 k h y0 y1 y2 y3) (QK.b0 (k + 1) h' y0 y1 y2 y3) := fun _ _ _ _ => (LeO.ite (LeO.ite (LeO.ite (LeO.ite (QK.j2_mono (k := k) hl _ _ _ _ _ _) (LeO.refl _)) (QK.j2_mono (k := k) hl _ _ _ _ _ _)) (LeO.refl _)) (LeO.bind (QS.mono k _) fun _ => LeO.refl _))
theorem QK.hs_mono : ∀ k, QK.LE (QK.hs k) (QK.hs (k + 1))
 | 0 => ⟨fun _ _ _ _ => LeO.none _⟩
 | k + 1 => ⟨QK.b0_mono (k := k) (QK.hs_mono k)⟩
theorem QK.mono : ∀ k y0 y1, LeO (QK.f k y0 y1) (QK.f (k + 1) y0 y1) := fun k _ _ => have hl := QK.hs_mono k; by unfold QK.f; exact (LeO.bind (Q8.mono k _) fun _ => hl.l0 _ _ _ _)
noncomputable def QK.Kl0 : List Item := .code (lopB (blkB (seqR (seqL (seqR (seqR QK.C)))))) :: .inLoop (lopB (blkB (seqR (seqL (seqR (seqR QK.C)))))) :: .inBlock 0 :: .code (seqR (seqR (seqR QK.C))) :: []
noncomputable def QK.Kj2 : List Item := .code (seqR (seqR (seqR (blkB (seqL (seqR (seqR (lopB (blkB (seqR (seqL (seqR (seqR QK.C))))))))))))) :: .inBlock 1 :: .code (seqR (seqR (seqR (lopB (blkB (seqR (seqL (seqR (seqR QK.C))))))))) :: .inLoop (lopB (blkB (seqR (seqL (seqR (seqR QK.C)))))) :: .inBlock 0 :: .code (seqR (seqR (seqR QK.C))) :: []
structure QK.OK (h : QK.Hs) : Prop where
 l0 : ∀ {H0 H : Hp} {L : Items} {r : (List Int)} {jk_ : Nat → Value} {n : Int} {out : List Int} {t11 : Int} {t12 : Int} {v_out : Value} {i_out : Item'} (_ : H0.le H) (_he : h.l0 n out t11 t12 = some r) (_h_out : Sl kU32 H 167 i_out v_out out), Wp Tryz.prog 118 44 QK.Kl0 (upd (upd (upd (upd (upd jk_ 1 (.int .i64 n)) 4 (.slice none 0 0)) 5 (v_out)) 11 (.int .i64 t11)) 12 (.int .i64 t12)) H (i_out :: L) (QK.R H0 L r)
theorem QK.j2_ok {k : Nat} {h : QK.Hs} (hh : QK.OK h) {H0 H : Hp} {L : Items} {r : (List Int)} {jk_ : Nat → Value} {n : Int} {out : List Int} {i v_ t11 t12 : Int} {v_out : Value} {i_out : Item'} (hle : H0.le H) (he : QK.j2 k h n out i v_ t11 t12 = some r) (h_out : Sl kU32 H 167 i_out v_out out) : Wp Tryz.prog 118 44 QK.Kj2 (upd (upd (upd (upd (upd (upd (upd jk_ 1 (.int .i64 n)) 4 (.slice none 0 0)) 5 (v_out)) 6 (.int .i64 i)) 7 (.int .u64 v_)) 11 (.int .i64 t11)) 12 (.int .i64 t12)) H (i_out :: L) (QK.R H0 L r) := by
 unfold QK.j2 at he
 unfold QK.Kj2
 refine QU rfl <| wM v_out rfl rfl <| wM (.int .i64 i) rfl rfl <| wM (.int .u64 v_) rfl rfl <| wM (.int .i64 n) rfl rfl <| rK he fun c23 he => w_d rfl (Z1 (c := v_ / 2 ^ shn .u64 n) rfl rfl c23 rfl) <| w_d rfl (X7 (c := (v_ / 2 ^ shn .u64 n) % 4294967296) Tryz.underlying113 Tryz.underlying167 rfl rfl) <| rK he fun c24 he => w_d rfl (YK (sz := 1) Tryz.underlying22 sz167 rfl h_out.shp rfl c24) <| w_a0 rfl (Y1 (kd := kU32) (v := .int .u32 ((v_ / 2 ^ shn .u64 n) % 4294967296)) (F := fun z_ => z_ :: L) sz167 rfl rfl rfl rfl h_out c24 (fun _ => .here)) ?_
 rintro _ _ _ ⟨i25, rfl, rfl, rfl, h26⟩
 refine Qb <| XC <| QU rfl <| w_d rfl (XR (c := w64 (t12 + 1)) rfl rfl rfl) <| wM (.int .i64 (w64 (t12 + 1))) rfl rfl <| Qb <| XL <| w_sl 1 (.int .i64 n) rfl <| w_sl 4 (.slice none 0 0) rfl <| w_sl 5 (v_out) rfl <| w_sl 11 (.int .i64 t11) rfl <| w_sl 12 (.int .i64 (w64 (t12 + 1))) rfl <| hh.l0 hle he h26
theorem QK.b0_ok {k : Nat} {h : QK.Hs} (hh : QK.OK h) {H0 H : Hp} {L : Items} {r : (List Int)} {jk_ : Nat → Value} {n : Int} {out : List Int} {t11 t12 : Int} {v_out : Value} {i_out : Item'} (hle : H0.le H) (he : QK.b0 k h n out t11 t12 = some r) (h_out : Sl kU32 H 167 i_out v_out out) : Wp Tryz.prog 118 44 QK.Kl0 (upd (upd (upd (upd (upd jk_ 1 (.int .i64 n)) 4 (.slice none 0 0)) 5 (v_out)) 11 (.int .i64 t11)) 12 (.int .i64 t12)) H (i_out :: L) (QK.R H0 L r) := by
 unfold QK.b0 at he
 unfold QK.Kl0
 refine wR rfl <| w_d rfl (XY rfl rfl) <| wE ?_
 rcases its he with ⟨c10, he⟩ | ⟨c10, he⟩
 ·
  refine QE rfl (dt c10) <| QH <| Q0 <| Xa <| wR rfl <| wM (.int .i64 t12) rfl rfl <| wA (.int .i64 t12) rfl rfl <| wQ rfl <| wM v_out rfl rfl ?_
  refine wM (.int .i64 t12) rfl rfl <| rK he fun c11 he => w_d rfl (YK (sz := 1) Tryz.underlying22 sz167 rfl h_out.shp rfl c11) <| w_d rfl (XP ty167 rfl (h_out.src .here) c11) <| w_d rfl (X7 (c := (rd out t12) % 18446744073709551616) Tryz.underlying167 Tryz.underlying113 rfl rfl) <| wA (.int .u64 ((rd out t12) % 18446744073709551616)) rfl rfl <| wE <| wR rfl <| wM (.int .i64 t12) rfl rfl <| w_d rfl (XR (c := w64 (t12 + 1)) rfl rfl rfl) ?_
  refine wM v_out rfl rfl <| w_d rfl (Gf Tryz.underlying22 rfl h_out.shp) <| w_d rfl (XY rfl rfl) <| Qb ?_
  rcases its he with ⟨c12, he⟩ | ⟨c12, he⟩
  ·
   refine QE rfl (dt c12) <| QU rfl <| wM (.int .u64 ((rd out t12) % 18446744073709551616)) rfl rfl <| wM v_out rfl rfl <| wM (.int .i64 t12) rfl rfl <| w_d rfl (XR (c := w64 (t12 + 1)) rfl rfl rfl) <| rK he fun c13 he => w_d rfl (YK (sz := 1) Tryz.underlying22 sz167 rfl h_out.shp rfl c13) <| w_d rfl (XP ty167 rfl (h_out.src .here) c13) <| w_d rfl (X7 (c := (rd out (w64 (t12 + 1))) % 18446744073709551616) Tryz.underlying167 Tryz.underlying113 rfl rfl) <| w_d rfl (Gm (c := (((rd out (w64 (t12 + 1))) % 18446744073709551616) * 4294967296) % 18446744073709551616) rfl rfl (by decide) rfl) <| w_d rfl (Gt rfl rfl) ?_
   refine wA (.int .u64 (ior .u64 ((rd out t12) % 18446744073709551616) ((((rd out (w64 (t12 + 1))) % 18446744073709551616) * 4294967296) % 18446744073709551616))) rfl rfl <| Qb <| w_sl 1 (.int .i64 n) rfl <| w_sl 4 (.slice none 0 0) rfl <| w_sl 5 (v_out) rfl <| w_sl 6 (.int .i64 t12) rfl <| w_sl 7 (.int .u64 (ior .u64 ((rd out t12) % 18446744073709551616) ((((rd out (w64 (t12 + 1))) % 18446744073709551616) * 4294967296) % 18446744073709551616))) rfl <| w_sl 11 (.int .i64 t11) rfl <| w_sl 12 (.int .i64 t12) rfl <| QK.j2_ok (k := k) hh hle he h_out
  ·
   refine QF rfl (df c12) <| QH <| w_sl 1 (.int .i64 n) rfl <| w_sl 4 (.slice none 0 0) rfl <| w_sl 5 (v_out) rfl <| w_sl 6 (.int .i64 t12) rfl <| w_sl 7 (.int .u64 ((rd out t12) % 18446744073709551616)) rfl <| w_sl 11 (.int .i64 t11) rfl <| w_sl 12 (.int .i64 t12) rfl <| QK.j2_ok (k := k) hh hle he h_out
 ·
  refine QF rfl (df c10) <| X8 rfl <| wR rfl <| wM v_out rfl rfl <| YA h_out .here ?_
  intro H14 e15 h16
  refine bK he fun y17 hy18 he => w_a rfl (Qm co113 (vs := [v_out]) rfl (QS.calls k hy18 h16)) ?_
  rintro v21 H19 _ ⟨rfl, e20, h22⟩
  refine wA v21 rfl rfl <| Qb ?_
  obtain rfl := sj he
  refine Qn fn_118 rs_118 (.tmp (v := v21) rfl .nil) <| ⟨⟨[_], rfl⟩, hle.trans (e15.trans e20), h22⟩
theorem QK.ok : ∀ k, QK.OK (QK.hs k)
 | 0 => ⟨(by intros; exact nomatch (show none = some _ from by assumption))⟩
 | k + 1 => ⟨QK.b0_ok (k := k) (QK.ok k)⟩
theorem QK.calls (k : Nat) {H : Hp} {L : Items} {w : List Int} {n : Int} {v0_w : Value} {r : (List Int)} (he : QK.f k w n = some r) (h0_w : Ro kU32 H v0_w w) : Ct Tryz.prog 118 ⟨[v0_w, .int .i64 n]⟩ H L (cR H L (QK.out r)) := by
 refine XO (O := QK.out r) ?_
 have hle : H.le H := .refl _
 have hh := QK.ok k
 unfold QK.f at he
 refine QV (args := [_, _]) fn_118 rfl nt_118 rfl <| wR rfl <| wA (.slice none 0 0) rfl rfl <| wQ rfl <| wM v0_w rfl rfl <| bK he fun y1 hy2 he => w_a rfl (Qm co119 (vs := [v0_w]) rfl (Q8.calls k hy2 h0_w)) ?_
 rintro v7 H3 _ ⟨i8, rfl, e4, h9⟩
 refine wA v7 rfl rfl <| wE <| wR rfl <| wM v7 rfl rfl <| w_d rfl (Gf Tryz.underlying22 rfl h9.shp) <| wM (.int .i64 0) rfl rfl <| Qb <| Xa <| X9 <| w_sl 1 (.int .i64 n) rfl ?_
 refine w_sl 4 (.slice none 0 0) rfl <| w_sl 5 (v7) rfl <| w_sl 11 (.int .i64 (y1.length : Int)) rfl <| w_sl 12 (.int .i64 0) rfl <| hh.l0 (hle.trans e4) he h9
noncomputable def QL.C : Code := (Tryz.f142.body).getD .skip
def QL.out (r : (List Int) × (List Int)) (H : Hp) (v : Value) : Prop := ∃ v0 v1, v = .tuple ⟨[v0, v1]⟩ ∧ Ro kU32 H v0 r.1 ∧ Ro kU32 H v1 r.2
abbrev QL.R (H0 : Hp) (L : Items) (r : (List Int) × (List Int)) := fR H0 L (QL.out r)
structure QL.Hs where
 l0 : Int → (List Int) → (List Int) → (List Int) → Int → Option ((List Int) × (List Int))
noncomputable def QL.j2 (k : Nat) (h : QL.Hs) (n : Int) (d r_ q : List Int) (i g : Int) : Option ((List Int) × (List Int)) := if (0 : Int) ≤ i ∧ i < (q.length : Int) then (h.l0 n d r_ (q.set (i : Int).toNat ((g) % 4294967296)) (w64 (i - 1))) else none
noncomputable def QL.b0 (k : Nat) (h : QL.Hs) (n : Int) (d r_ q : List Int) (i : Int) : Option ((List Int) × (List Int)) := if 0 ≤ i then ((Q3.f k r_ d i).bind fun y63 => (Qx.f k r_ d i y63).bind fun y67 => if y67.1 = true then ((Qt.f k y67.2 d i).bind fun y74 => QL.j2 k h n d y74 q i ((y63 - 1) % 18446744073709551616)) else (QL.j2 k h n d y67.2 q i y63)) else ((QS.f k q).bind fun y83 => (QK.f k r_ n).bind fun y92 => some (y83, y92))
noncomputable def QL.hs : Nat → QL.Hs
 | 0 => ⟨fun _ _ _ _ _ => none⟩
 | k + 1 => ⟨fun x0 x1 x2 x3 x4 => QL.b0 k (QL.hs k) x0 x1 x2 x3 x4⟩
noncomputable def QL.f (k : Nat) (a b : List Int) : Option ((List Int) × (List Int)) := (fun h : QL.Hs => (Q2.f k a b).bind fun y1 => if y1 < 0 then (some ([], a)) else (if (b.length : Int) = 1 then (if (0 : Int) ≤ 0 ∧ 0 < (b.length : Int) then ((QY.f k a (rd b 0)).bind fun y8 => (QS.f k [y8.2]).bind fun y20 => some (y8.1, y20)) else none) else (if (0 : Int) ≤ w64 ((b.length : Int) - 1) ∧ w64 ((b.length : Int) - 1) < (b.length : Int) then ((XU.f k (rd b (w64 ((b.length : Int) - 1)))).bind fun y27 => (Xl.f k b y27).bind fun y31 => (QS.f k y31).bind fun y43 => (Xl.f k a y27).bind fun y49 => if 0 ≤ w64 ((y49.length : Int) - (y43.length : Int)) ∧ w64 ((y49.length : Int) - (y43.length : Int)) ≤ 70368744177664 then (h.l0 y27 y43 y49 (List.replicate (w64 ((y49.length : Int) - (y43.length : Int)) : Int).toNat (0 : Int)) (w64 (((List.replicate (w64 ((y49.length : Int) - (y43.length : Int)) : Int).toNat (0 : Int)).length : Int) - 1))) else none) else none))) (QL.hs k)
structure QL.LE (h h' : QL.Hs) : Prop where
 l0 : ∀ y0 y1 y2 y3 y4, LeO (h.l0 y0 y1 y2 y3 y4) (h'.l0 y0 y1 y2 y3 y4)
theorem QL.j2_mono {k : Nat} {h h' : QL.Hs} (hl : QL.LE h h') : ∀ y0 y1 y2 y3 y4 y5, LeO (QL.j2 k h y0 y1 y2 y3 y4 y5) (QL.j2 (k + 1) h' y0 y1 y2 y3 y4 y5) := fun _ _ _ _ _ _ => (LeO.ite (hl.l0 _ _ _ _ _) (LeO.refl _))
theorem QL.b0_mono {k : Nat} {h h' : QL.Hs} (hl : QL.LE h h') : ∀ y0 y1 y2 y3 y4, LeO (QL.b0 k h y0 y1 y2 y3 y4) (QL.b0 (k + 1) h' y0 y1 y2 y3 y4) := fun _ _ _ _ _ => (LeO.ite (LeO.bind (Q3.mono k _ _ _) fun _ => LeO.bind (Qx.mono k _ _ _ _) fun _ => LeO.ite (LeO.bind (Qt.mono k _ _ _) fun _ => QL.j2_mono (k := k) hl _ _ _ _ _ _) (QL.j2_mono (k := k) hl _ _ _ _ _ _)) (LeO.bind (QS.mono k _) fun _ => LeO.bind (QK.mono k _ _) fun _ => LeO.refl _))
theorem QL.hs_mono : ∀ k, QL.LE (QL.hs k) (QL.hs (k + 1))
 | 0 => ⟨fun _ _ _ _ _ => LeO.none _⟩
 | k + 1 => ⟨QL.b0_mono (k := k) (QL.hs_mono k)⟩
theorem QL.mono : ∀ k y0 y1, LeO (QL.f k y0 y1) (QL.f (k + 1) y0 y1) := fun k _ _ => have hl := QL.hs_mono k; by unfold QL.f; exact (LeO.bind (Q2.mono k _ _) fun _ => LeO.ite (LeO.refl _) (LeO.ite (LeO.ite (LeO.bind (QY.mono k _ _) fun _ => LeO.bind (QS.mono k _) fun _ => LeO.refl _) (LeO.refl _)) (LeO.ite (LeO.bind (XU.mono k _) fun _ => LeO.bind (Xl.mono k _ _) fun _ => LeO.bind (QS.mono k _) fun _ => LeO.bind (Xl.mono k _ _) fun _ => LeO.ite (hl.l0 _ _ _ _ _) (LeO.refl _)) (LeO.refl _))))
noncomputable def QL.Kl0 : List Item := .code (lopB (blkB (seqR (seqL (seqR (seqR (seqR (seqR (seqR (seqR (seqR QL.C))))))))))) :: .inLoop (lopB (blkB (seqR (seqL (seqR (seqR (seqR (seqR (seqR (seqR (seqR QL.C))))))))))) :: .inBlock 0 :: .code (seqR (seqR (seqR (seqR (seqR (seqR (seqR (seqR QL.C)))))))) :: []
noncomputable def QL.Kj2 : List Item := .code (seqR (seqR (blkB (seqL (seqR (lopB (blkB (seqR (seqL (seqR (seqR (seqR (seqR (seqR (seqR (seqR QL.C)))))))))))))))) :: .inBlock 1 :: .code (seqR (seqR (lopB (blkB (seqR (seqL (seqR (seqR (seqR (seqR (seqR (seqR (seqR QL.C))))))))))))) :: .inLoop (lopB (blkB (seqR (seqL (seqR (seqR (seqR (seqR (seqR (seqR (seqR QL.C))))))))))) :: .inBlock 0 :: .code (seqR (seqR (seqR (seqR (seqR (seqR (seqR (seqR QL.C)))))))) :: []
structure QL.OK (h : QL.Hs) : Prop where
 l0 : ∀ {H0 H : Hp} {L : Items} {r : (List Int) × (List Int)} {jk_ : Nat → Value} {n : Int} {d : List Int} {r_ : List Int} {q : List Int} {i : Int} {v_d : Value} {v_r_ : Value} {v_q : Value} {i_r_ : Item'} {i_q : Item'} (_ : H0.le H) (_he : h.l0 n d r_ q i = some r) (_h_d : Ro kU32 H v_d d) (_h_r_ : Sl kU32 H 167 i_r_ v_r_ r_) (_h_q : Sl kU32 H 167 i_q v_q q), Wp Tryz.prog 142 86 QL.Kl0 (upd (upd (upd (upd (upd (upd (upd jk_ 4 (.slice none 0 0)) 5 (.slice none 0 0)) 8 (.int .i64 n)) 9 (v_d)) 10 (v_r_)) 11 (v_q)) 12 (.int .i64 i)) H (i_q :: i_r_ :: L) (QL.R H0 L r)
theorem QL.j2_ok {k : Nat} {h : QL.Hs} (hh : QL.OK h) {H0 H : Hp} {L : Items} {r : (List Int) × (List Int)} {jk_ : Nat → Value} {n : Int} {d r_ q : List Int} {i g : Int} {v_d v_r_ v_q : Value} {i_r_ i_q : Item'} (hle : H0.le H) (he : QL.j2 k h n d r_ q i g = some r) (h_d : Ro kU32 H v_d d) (h_r_ : Sl kU32 H 167 i_r_ v_r_ r_) (h_q : Sl kU32 H 167 i_q v_q q) : Wp Tryz.prog 142 86 QL.Kj2 (upd (upd (upd (upd (upd (upd (upd (upd jk_ 4 (.slice none 0 0)) 5 (.slice none 0 0)) 8 (.int .i64 n)) 9 (v_d)) 10 (v_r_)) 11 (v_q)) 12 (.int .i64 i)) 13 (.int .u64 g)) H (i_q :: i_r_ :: L) (QL.R H0 L r) := by
 unfold QL.j2 at he
 unfold QL.Kj2
 refine QU rfl <| wM v_q rfl rfl <| wM (.int .i64 i) rfl rfl <| wM (.int .u64 g) rfl rfl <| w_d rfl (X7 (c := (g) % 4294967296) Tryz.underlying113 Tryz.underlying167 rfl rfl) <| rK he fun c98 he => w_d rfl (YK (sz := 1) Tryz.underlying22 sz167 rfl h_q.shp rfl c98) <| w_a0 rfl (Y1 (kd := kU32) (v := .int .u32 ((g) % 4294967296)) (F := fun z_ => z_ :: i_r_ :: L) sz167 rfl rfl rfl rfl h_q c98 (fun _ => .here)) ?_
 rintro _ _ _ ⟨i99, rfl, rfl, rfl, h100⟩
 refine Qb <| XC <| QU rfl <| wM (.int .i64 i) rfl rfl <| w_d rfl (YD (c := w64 (i - 1)) rfl rfl rfl) <| wA (.int .i64 (w64 (i - 1))) rfl rfl <| Qb <| XL <| w_sl 4 (.slice none 0 0) rfl <| w_sl 5 (.slice none 0 0) rfl <| w_sl 8 (.int .i64 n) rfl <| w_sl 9 (v_d) rfl ?_
 refine w_sl 10 (v_r_) rfl <| w_sl 11 (v_q) rfl <| w_sl 12 (.int .i64 (w64 (i - 1))) rfl <| hh.l0 hle he h_d h_r_ h100
theorem QL.b0_ok {k : Nat} {h : QL.Hs} (hh : QL.OK h) {H0 H : Hp} {L : Items} {r : (List Int) × (List Int)} {jk_ : Nat → Value} {n : Int} {d r_ q : List Int} {i : Int} {v_d v_r_ v_q : Value} {i_r_ i_q : Item'} (hle : H0.le H) (he : QL.b0 k h n d r_ q i = some r) (h_d : Ro kU32 H v_d d) (h_r_ : Sl kU32 H 167 i_r_ v_r_ r_) (h_q : Sl kU32 H 167 i_q v_q q) : Wp Tryz.prog 142 86 QL.Kl0 (upd (upd (upd (upd (upd (upd (upd jk_ 4 (.slice none 0 0)) 5 (.slice none 0 0)) 8 (.int .i64 n)) 9 (v_d)) 10 (v_r_)) 11 (v_q)) 12 (.int .i64 i)) H (i_q :: i_r_ :: L) (QL.R H0 L r) := by
 unfold QL.b0 at he
 unfold QL.Kl0
 refine Q0 <| wR rfl <| wM (.int .i64 i) rfl rfl <| w_d rfl (ZJ rfl rfl) <| Qb ?_
 rcases its he with ⟨c62, he⟩ | ⟨c62, he⟩
 ·
  refine QE rfl (dt c62) <| QH <| Q0 <| Xa <| wR rfl <| wM v_r_ rfl rfl <| wM v_d rfl rfl <| wM (.int .i64 i) rfl rfl <| bK he fun y63 hy64 he => w_d rfl (Xx (Qm co156 (vs := [v_r_, v_d, .int .i64 i]) rfl (Q3.calls k hy64 (h_r_.src .h1) h_d.src))) <| wA (.int .u64 y63) rfl rfl ?_
  refine wE <| wR rfl <| wM v_r_ rfl rfl <| wM v_d rfl rfl <| wM (.int .i64 i) rfl rfl <| wM (.int .u64 y63) rfl rfl <| bK he fun y67 hy68 he => w_a rfl (Qm co157 (vs := [v_r_, v_d, .int .i64 i, .int .u64 y63]) rfl (MW (F := fun z_ => i_q :: z_ :: L) (Qx.calls k hy68 h_r_ h_d.src) .h1 (fun _ => .h1))) ?_
  rintro _ H69 _ ⟨i71, rfl, e70, h72, rfl⟩
  refine Qb ?_
  rcases its he with ⟨c73, he⟩ | ⟨c73, he⟩
  ·
   refine QE rfl c73 <| wR rfl <| wM (.int .u64 y63) rfl rfl <| w_d rfl (YD (c := (y63 - 1) % 18446744073709551616) rfl rfl rfl) <| wA (.int .u64 ((y63 - 1) % 18446744073709551616)) rfl rfl <| Qb <| QU rfl <| wM v_r_ rfl rfl <| wM v_d rfl rfl <| wM (.int .i64 i) rfl rfl <| bK he fun y74 hy75 he => ?_
   refine w_a rfl (Qm co158 (vs := [v_r_, v_d, .int .i64 i]) rfl (MW (F := fun z_ => i_q :: z_ :: L) (Qt.calls k hy75 h72 ((h_d.mono e70).src)) .h1 (fun _ => .h1))) ?_
   rintro _ H76 _ ⟨i78, rfl, e77, h79, rfl⟩
   refine Qb <| w_sl 4 (.slice none 0 0) rfl <| w_sl 5 (.slice none 0 0) rfl <| w_sl 8 (.int .i64 n) rfl <| w_sl 9 (v_d) rfl <| w_sl 10 (v_r_) rfl <| w_sl 11 (v_q) rfl <| w_sl 12 (.int .i64 i) rfl <| w_sl 13 (.int .u64 ((y63 - 1) % 18446744073709551616)) rfl <| QL.j2_ok (k := k) hh (hle.trans (e70.trans e77)) he (h_d.mono (e70.trans e77)) h79 (h_q.mono (e70.trans e77))
  ·
   refine QF rfl (Bool.eq_false_iff.2 c73) <| QH <| w_sl 4 (.slice none 0 0) rfl <| w_sl 5 (.slice none 0 0) rfl <| w_sl 8 (.int .i64 n) rfl <| w_sl 9 (v_d) rfl <| w_sl 10 (v_r_) rfl <| w_sl 11 (v_q) rfl <| w_sl 12 (.int .i64 i) rfl <| w_sl 13 (.int .u64 y63) rfl <| QL.j2_ok (k := k) hh (hle.trans e70) he (h_d.mono e70) h72 (h_q.mono e70)
 ·
  refine QF rfl (df c62) <| X8 rfl <| wR rfl <| wM v_q rfl rfl <| YA h_q .here ?_
  intro H80 e81 h82
  refine bK he fun y83 hy84 he => w_a rfl (Qm co113 (vs := [v_q]) rfl (QS.calls k hy84 h82)) ?_
  rintro v87 H85 _ ⟨rfl, e86, h88⟩
  refine wM v_r_ rfl rfl <| wM (.int .i64 n) rfl rfl <| YA (h_r_.mono (e81.trans e86)) .h1 ?_
  intro H89 e90 h91
  refine bK he fun y92 hy93 he => w_a rfl (Qm co118 (vs := [v_r_, .int .i64 n]) rfl (QK.calls k hy93 h91)) ?_
  rintro v96 H94 _ ⟨rfl, e95, h97⟩
  refine wA v87 rfl rfl <| wA v96 rfl rfl <| Qb ?_
  obtain rfl := sj he
  refine Qn fn_142 rs_142 (.tmp (v := v87) rfl (.tmp (v := v96) rfl .nil)) <| ⟨⟨[_, _], rfl⟩, hle.trans (((e81.trans e86).trans e90).trans e95), ⟨v87, v96, rfl, (h88.mono (e90.trans e95)), h97⟩⟩
theorem QL.ok : ∀ k, QL.OK (QL.hs k)
 | 0 => ⟨(by intros; exact nomatch (show none = some _ from by assumption))⟩
 | k + 1 => ⟨QL.b0_ok (k := k) (QL.ok k)⟩
theorem QL.calls (k : Nat) {H : Hp} {L : Items} {a b : List Int} {v0_a v1_b : Value} {r : (List Int) × (List Int)} (he : QL.f k a b = some r) (h0_a : Ro kU32 H v0_a a) (h1_b : Src kU32 H L v1_b b) : Ct Tryz.prog 142 ⟨[v0_a, v1_b]⟩ H L (cR H L (QL.out r)) := by
 refine XO (O := QL.out r) ?_
 have hle : H.le H := .refl _
 have hh := QL.ok k
 unfold QL.f at he
 refine QV (args := [_, _]) fn_142 rfl nt_142 rfl <| wR rfl <| wA (.slice none 0 0) rfl rfl <| wA (.slice none 0 0) rfl rfl <| wE <| wR rfl <| wM v0_a rfl rfl <| wM v1_b rfl rfl <| bK he fun y1 hy2 he => ?_
 refine w_d rfl (Xx (Qm co137 (vs := [v0_a, v1_b]) rfl (Q2.calls k hy2 h0_a.src h1_b))) <| w_d rfl (XY rfl rfl) <| Qb ?_
 rcases its he with ⟨c5, he⟩ | ⟨c5, he⟩
 ·
  refine QE rfl (dt c5) <| wR rfl <| wM v0_a rfl rfl <| wA (.slice none 0 0) rfl rfl <| wA v0_a rfl rfl <| Qb ?_
  obtain rfl := sj he
  refine Qn fn_142 rs_142 (.tmp (v := .slice none 0 0) rfl (.tmp (v := v0_a) rfl .nil)) <| ⟨⟨[], rfl⟩, hle, ⟨.slice none 0 0, v0_a, rfl, (Xg _ _), h0_a⟩⟩
 ·
  refine QF rfl (df c5) <| QH <| Q0 <| wR rfl <| wM v1_b rfl rfl <| w_d rfl (Xr Tryz.underlying22 rfl h1_b) <| w_d rfl (Zh rfl rfl) <| Qb ?_
  rcases its he with ⟨c6, he⟩ | ⟨c6, he⟩
  ·
   refine QE rfl (dt c6) <| wR rfl <| wM v0_a rfl rfl <| wM v1_b rfl rfl <| rK he fun c7 he => w_d rfl (XK (sz := 1) Tryz.underlying22 sz167 rfl h1_b rfl c7) <| w_d rfl (XP ty167 rfl h1_b c7) <| bK he fun y8 hy9 he => w_a rfl (Qm co130 (vs := [v0_a, .int .u32 (rd b 0)]) rfl (QY.calls k hy9 h0_a.src)) ?_
   rintro _ H10 _ ⟨rfl, e11, v12, rfl, h13⟩
   refine wM (.tuple ⟨[v12, .int .u32 y8.2]⟩) rfl rfl <| w_d rfl (Q6 rfl rfl) <| w_d rfl (Q6 rfl rfl) <| wA v12 rfl rfl <| wA (.int .u32 y8.2) rfl rfl <| wQ rfl <| wM v12 rfl rfl <| wM (.int .u32 y8.2) rfl rfl <| w_a rfl (o_buildSlice' (kd := kU32) (css := [[.int .u32 y8.2]]) (xs := [y8.2]) (parts := [(0, .int .u32 y8.2)]) Tryz.underlying22 ti167 rfl ⟨_, _, rfl, rfl, rfl⟩ ⟨rfl, trivial⟩ rfl (by decide)) ?_
   rintro v14 _ _ ⟨i15, rfl, rfl, h16⟩
   refine YA h16 .here ?_
   intro H17 e18 h19
   refine bK he fun y20 hy21 he => w_a rfl (Qm co113 (vs := [v14]) rfl (QS.calls k hy21 h19)) ?_
   rintro v24 H22 _ ⟨rfl, e23, h25⟩
   refine wA v12 rfl rfl <| wA v24 rfl rfl <| Qb ?_
   obtain rfl := sj he
   refine Qn fn_142 rs_142 (.tmp (v := v12) rfl (.tmp (v := v24) rfl .nil)) <| ⟨⟨[_], rfl⟩, hle.trans ((e11.trans e18).trans e23), ⟨v12, v24, rfl, (h13.mono (e18.trans e23)), h25⟩⟩
  ·
   refine QF rfl (df c6) <| QH <| wR rfl <| wM v1_b rfl rfl <| wM v1_b rfl rfl <| w_d rfl (Xr Tryz.underlying22 rfl h1_b) <| w_d rfl (YD (c := w64 ((b.length : Int) - 1)) rfl rfl rfl) <| rK he fun c26 he => w_d rfl (XK (sz := 1) Tryz.underlying22 sz167 rfl h1_b rfl c26) <| w_d rfl (XP ty167 rfl h1_b c26) <| bK he fun y27 hy28 he => ?_
   refine w_d rfl (Xx (Qm co155 (vs := [.int .u32 (rd b (w64 ((b.length : Int) - 1)))]) rfl (XU.calls k hy28))) <| wA (.int .i64 y27) rfl rfl <| wQ rfl <| wM v1_b rfl rfl <| wM (.int .i64 y27) rfl rfl <| bK he fun y31 hy32 he => w_a rfl (Qm co114 (vs := [v1_b, .int .i64 y27]) rfl (Xl.calls k hy32 h1_b)) ?_
   rintro v37 H33 _ ⟨i38, rfl, e34, h39⟩
   refine YA h39 .here ?_
   intro H40 e41 h42
   refine bK he fun y43 hy44 he => w_a rfl (Qm co113 (vs := [v37]) rfl (QS.calls k hy44 h42)) ?_
   rintro v47 H45 _ ⟨rfl, e46, h48⟩
   refine wA v47 rfl rfl <| wQ rfl <| wM v0_a rfl rfl <| wM (.int .i64 y27) rfl rfl <| bK he fun y49 hy50 he => w_a rfl (Qm co114 (vs := [v0_a, .int .i64 y27]) rfl (Xl.calls k hy50 ((h0_a.mono ((e34.trans e41).trans e46)).src))) ?_
   rintro v55 H51 _ ⟨i56, rfl, e52, h57⟩
   refine wA v55 rfl rfl <| wQ rfl <| wM v55 rfl rfl <| w_d rfl (Gf Tryz.underlying22 rfl h57.shp) <| wM v47 rfl rfl <| w_d rfl (Xr Tryz.underlying22 rfl (h48.mono e52).src) <| w_d rfl (YD (c := w64 ((y49.length : Int) - (y43.length : Int))) rfl rfl rfl) <| rK he fun c58 he => w_a rfl (o_make' (kd := kU32) (z0 := 0) Tryz.underlying22 ti167 (zp167 _) rfl rfl (by omega) (by omega) (by omega)) ?_
   rintro v59 _ _ ⟨i60, rfl, rfl, h61⟩
   refine wA v59 rfl rfl <| wE <| wR rfl <| wM v59 rfl rfl <| w_d rfl (Gf Tryz.underlying22 rfl h61.shp) <| w_d rfl (YD (c := w64 (((List.replicate (w64 ((y49.length : Int) - (y43.length : Int)) : Int).toNat (0 : Int)).length : Int) - 1)) rfl rfl rfl) <| wA (.int .i64 (w64 (((List.replicate (w64 ((y49.length : Int) - (y43.length : Int)) : Int).toNat (0 : Int)).length : Int) - 1))) rfl rfl <| Qb <| Xa <| X9 ?_
   refine YB .h2 <| w_sl 4 (.slice none 0 0) rfl <| w_sl 5 (.slice none 0 0) rfl <| w_sl 8 (.int .i64 y27) rfl <| w_sl 9 (v47) rfl <| w_sl 10 (v55) rfl <| w_sl 11 (v59) rfl <| w_sl 12 (.int .i64 (w64 (((List.replicate (w64 ((y49.length : Int) - (y43.length : Int)) : Int).toNat (0 : Int)).length : Int) - 1))) rfl <| hh.l0 (hle.trans (((e34.trans e41).trans e46).trans e52)) he (h48.mono e52) h57 h61
noncomputable def XH.C : Code := (Tryz.f71.body).getD .skip
def XH.out (r : Qs) (H : Hp) (v : Value) : Prop := ∃ v0, v = (Qc r v0) ∧ Ro kU32 H v0 r.f_w
theorem XH.out_mono (r : Qs) {H H' : Hp} {v : Value} (hle : H.le H') (h : XH.out r H v) : XH.out r H' v := by
 obtain ⟨v0, rfl, h0⟩ := h; exact ⟨v0, rfl, h0.mono hle⟩
abbrev XH.R (H0 : Hp) (L : Items) (r : Qs) := fR H0 L (XH.out r)
noncomputable def XH.j1 (k : Nat) (n v_ : Int) : Option Qs := (QS.f k [(v_) % 4294967296, (v_ / 4294967296) % 4294967296]).bind fun y9 => some (⟨decide (n < 0), y9⟩)
noncomputable def XH.f (k : Nat) (n : Int) : Option Qs := if n < 0 then (XH.j1 k n ((0 - ((n) % 18446744073709551616)) % 18446744073709551616)) else (XH.j1 k n ((n) % 18446744073709551616))
theorem XH.j1_mono {k : Nat} : ∀ y0 y1, LeO (XH.j1 k y0 y1) (XH.j1 (k + 1) y0 y1) := fun _ _ => (LeO.bind (QS.mono k _) fun _ => LeO.refl _)
theorem XH.mono : ∀ k y0, LeO (XH.f k y0) (XH.f (k + 1) y0) := fun k _ => by unfold XH.f; exact (LeO.ite (XH.j1_mono (k := k)  _ _) (XH.j1_mono (k := k)  _ _))
noncomputable def XH.Kj1 : List Item := .code (seqR (seqR (seqR XH.C))) :: []
theorem XH.j1_ok {k : Nat} {H0 H : Hp} {L : Items} {r : Qs} {jk_ : Nat → Value} {n v_ : Int} {b_t2 : Nat} (hle : H0.le H) (he : XH.j1 k n v_ = some r) : Wp Tryz.prog 71 20 XH.Kj1 (upd (upd (upd jk_ 0 (.int .i64 n)) 2 (pt b_t2)) 3 (.int .u64 v_)) H (bx b_t2 [.bool false, .slice none 0 0] 24 :: L) (XH.R H0 L r) := by
 unfold XH.j1 at he
 unfold XH.Kj1
 refine wR rfl <| wM (.int .i64 n) rfl rfl <| w_d rfl (XY rfl rfl) <| wM (.int .u64 v_) rfl rfl <| w_d rfl (X7 (c := (v_) % 4294967296) Tryz.underlying113 Tryz.underlying167 rfl rfl) <| wM (.int .u64 v_) rfl rfl <| w_d rfl (Z1 (c := v_ / 4294967296) rfl rfl (by decide) rfl) <| w_d rfl (X7 (c := (v_ / 4294967296) % 4294967296) Tryz.underlying113 Tryz.underlying167 rfl rfl) <| w_a rfl (o_buildSlice' (kd := kU32) (css := [[.int .u32 ((v_) % 4294967296)], [.int .u32 ((v_ / 4294967296) % 4294967296)]]) (xs := [(v_) % 4294967296, (v_ / 4294967296) % 4294967296]) (parts := [(0, .int .u32 ((v_) % 4294967296)), (1, .int .u32 ((v_ / 4294967296) % 4294967296))]) Tryz.underlying22 ti167 rfl ⟨_, _, rfl, rfl, ⟨_, _, rfl, rfl, rfl⟩⟩ ⟨rfl, ⟨rfl, trivial⟩⟩ rfl (by decide)) ?_
 rintro v3 _ _ ⟨i4, rfl, rfl, h5⟩
 refine YA h5 .here ?_
 intro H6 e7 h8
 refine bK he fun y9 hy10 he => w_a rfl (Qm co113 (vs := [v3]) rfl (QS.calls k hy10 h8)) ?_
 rintro v13 H11 _ ⟨rfl, e12, h14⟩
 refine w_d rfl (XF (cs' := [.bool (decide (n < 0)), v13]) Tryz.underlying24 zr24 rfl (by kernel_rfl) (parts := [(0, .bool (decide (n < 0))), (1, v13)]) rfl (.cons (YF rfl sz4 rfl) rfl rfl u1 (.cons (YF rfl sz22 rfl) h14.cells rfl (.there u1) .nil))) <| wS (.agg ⟨[.bool (decide (n < 0)), v13]⟩) sz24 rfl rfl rfl rfl rfl (oc rfl (oc (h14.one) oz)) .h1 u2 <| Qb ?_
 obtain rfl := sj he
 refine Qn fn_71 rs_71 (.box (v := .agg ⟨[.bool (decide (n < 0)), v13]⟩) rfl ty24 rfl rfl .h1 rfl .nil) <| ⟨⟨[_, _], rfl⟩, hle.trans (e7.trans e12), ⟨v13, rfl, h14⟩⟩
theorem XH.calls (k : Nat) {H : Hp} {L : Items} {n : Int} {r : Qs} (he : XH.f k n = some r) : Ct Tryz.prog 71 ⟨[.int .i64 n]⟩ H L (cR H L (XH.out r)) := by
 refine XO (O := XH.out r) ?_
 have hle : H.le H := .refl _
 unfold XH.f at he
 refine QV (args := [_]) fn_71 rfl nt_71 rfl <| wR rfl <| wN zr24 rfl rfl fun b1 => wQ rfl <| wM (.int .i64 n) rfl rfl <| w_d rfl (X7 (c := (n) % 18446744073709551616) Tryz.underlying2 Tryz.underlying113 rfl rfl) <| wA (.int .u64 ((n) % 18446744073709551616)) rfl rfl <| wE ?_
 refine wR rfl <| wM (.int .i64 n) rfl rfl <| w_d rfl (XY rfl rfl) <| Qb ?_
 rcases its he with ⟨c2, he⟩ | ⟨c2, he⟩
 ·
  refine QE rfl (dt c2) <| QU rfl <| wM (.int .u64 ((n) % 18446744073709551616)) rfl rfl <| w_d rfl (Ml (c := (0 - ((n) % 18446744073709551616)) % 18446744073709551616) rfl rfl) <| wA (.int .u64 ((0 - ((n) % 18446744073709551616)) % 18446744073709551616)) rfl rfl <| Qb <| w_sl 0 (.int .i64 n) rfl <| w_sl 2 (pt b1) rfl <| w_sl 3 (.int .u64 ((0 - ((n) % 18446744073709551616)) % 18446744073709551616)) rfl <| XH.j1_ok (k := k) hle he
 ·
  refine QF rfl (df c2) <| QH <| w_sl 0 (.int .i64 n) rfl <| w_sl 2 (pt b1) rfl <| w_sl 3 (.int .u64 ((n) % 18446744073709551616)) rfl <| XH.j1_ok (k := k) hle he
noncomputable def YN.C : Code := (Tryz.f159.body).getD .skip
def YN.out (r : Int × Int) (H : Hp) (v : Value) : Prop := v = .tuple ⟨[.int .u32 r.1, .int .u32 r.2]⟩
noncomputable def YN.f (k : Nat) (x y borrow : Int) : Option (Int × Int) := some ((((x - y) % 4294967296) - borrow) % 4294967296, (ior .u32 (iand .u32 (ixor .u32 4294967295 x) y) (iand .u32 (ixor .u32 4294967295 (ixor .u32 x y)) ((((x - y) % 4294967296) - borrow) % 4294967296))) / 2147483648)
theorem YN.mono : ∀ k y0 y1 y2, LeO (YN.f k y0 y1 y2) (YN.f (k + 1) y0 y1 y2) := fun k _ _ _ => by unfold YN.f; exact (LeO.refl _)
theorem YN.calls (k : Nat) {H : Hp} {L : Items} {x y borrow : Int} {r : Int × Int} (he : YN.f k x y borrow = some r) : Ct Tryz.prog 159 ⟨[.int .u32 x, .int .u32 y, .int .u32 borrow]⟩ H L (fun v H' L' => L = L' ∧ H = H' ∧ v = .tuple ⟨[.int .u32 r.1, .int .u32 r.2]⟩) := by
 refine Yj (O := YN.out r) (fun _ _ h => h) ?_
 have hle : H.le H := .refl _
 unfold YN.f at he
 refine QV (args := [_, _, _]) fn_159 rfl nt_159 rfl <| wR rfl <| wA (.int .u32 0) rfl rfl <| wA (.int .u32 0) rfl rfl <| wQ rfl <| wM (.int .u32 x) rfl rfl <| wM (.int .u32 y) rfl rfl <| w_d rfl (YD (c := (x - y) % 4294967296) rfl rfl rfl) <| wM (.int .u32 borrow) rfl rfl ?_
 refine w_d rfl (YD (c := (((x - y) % 4294967296) - borrow) % 4294967296) rfl rfl rfl) <| wA (.int .u32 ((((x - y) % 4294967296) - borrow) % 4294967296)) rfl rfl <| wQ rfl <| wM (.int .u32 x) rfl rfl <| w_d rfl (VD rfl) <| wM (.int .u32 y) rfl rfl <| w_d rfl (Nh rfl rfl) <| wM (.int .u32 x) rfl rfl <| wM (.int .u32 y) rfl rfl <| w_d rfl (WO rfl rfl) ?_
 refine w_d rfl (VD rfl) <| wM (.int .u32 ((((x - y) % 4294967296) - borrow) % 4294967296)) rfl rfl <| w_d rfl (Nh rfl rfl) <| w_d rfl (Gt rfl rfl) <| w_d rfl (Z1 (c := (ior .u32 (iand .u32 (ixor .u32 4294967295 x) y) (iand .u32 (ixor .u32 4294967295 (ixor .u32 x y)) ((((x - y) % 4294967296) - borrow) % 4294967296))) / 2147483648) rfl rfl (by decide) rfl) <| wA (.int .u32 ((ior .u32 (iand .u32 (ixor .u32 4294967295 x) y) (iand .u32 (ixor .u32 4294967295 (ixor .u32 x y)) ((((x - y) % 4294967296) - borrow) % 4294967296))) / 2147483648)) rfl rfl <| Qb ?_
 obtain rfl := sj he
 refine Qn fn_159 rs_159 (.tmp (v := .int .u32 ((((x - y) % 4294967296) - borrow) % 4294967296)) rfl (.tmp (v := .int .u32 ((ior .u32 (iand .u32 (ixor .u32 4294967295 x) y) (iand .u32 (ixor .u32 4294967295 (ixor .u32 x y)) ((((x - y) % 4294967296) - borrow) % 4294967296))) / 2147483648)) rfl .nil)) <| ⟨⟨[], rfl⟩, hle, rfl⟩
noncomputable def QD.C : Code := (Tryz.f143.body).getD .skip
abbrev QD.out (r : (List Int)) (H : Hp) (v : Value) : Prop := Ro kU32 H v r
abbrev QD.R (H0 : Hp) (L : Items) (r : (List Int)) := fR H0 L (QD.out r)
structure QD.Hs where
 l0 : (List Int) → (List Int) → Int → (List Int) → Int → Int → Option (List Int)
noncomputable def QD.j2 (k : Nat) (h : QD.Hs) (b out : List Int) (borrow x y : Int) (t14 : List Int) (t15 t16 : Int) : Option (List Int) := (YN.f k x y borrow).bind fun y18 => if out.length + 1 ≤ 35184372088704 then (h.l0 b (out ++ [y18.1]) y18.2 t14 t15 (w64 (t16 + 1))) else none
noncomputable def QD.b0 (k : Nat) (h : QD.Hs) (b out : List Int) (borrow : Int) (t14 : List Int) (t15 t16 : Int) : Option (List Int) := if t16 < t15 then (if (0 : Int) ≤ t16 ∧ t16 < (t14.length : Int) then (if t16 < (b.length : Int) then (if (0 : Int) ≤ t16 ∧ t16 < (b.length : Int) then (QD.j2 k h b out borrow (rd t14 t16) (rd b t16) t14 t15 t16) else none) else (QD.j2 k h b out borrow (rd t14 t16) 0 t14 t15 t16)) else none) else ((QS.f k out).bind fun y12 => some (y12))
noncomputable def QD.hs : Nat → QD.Hs
 | 0 => ⟨fun _ _ _ _ _ _ => none⟩
 | k + 1 => ⟨fun x0 x1 x2 x3 x4 x5 => QD.b0 k (QD.hs k) x0 x1 x2 x3 x4 x5⟩
noncomputable def QD.f (k : Nat) (a b : List Int) : Option (List Int) := (fun h : QD.Hs => if 0 ≤ 0 ∧ 0 ≤ (a.length : Int) ∧ (a.length : Int) ≤ 70368744177664 then (h.l0 b (List.replicate (0 : Int).toNat (0 : Int)) 0 a (a.length : Int) 0) else none) (QD.hs k)
structure QD.LE (h h' : QD.Hs) : Prop where
 l0 : ∀ y0 y1 y2 y3 y4 y5, LeO (h.l0 y0 y1 y2 y3 y4 y5) (h'.l0 y0 y1 y2 y3 y4 y5)
theorem QD.j2_mono {k : Nat} {h h' : QD.Hs} (hl : QD.LE h h') : ∀ y0 y1 y2 y3 y4 y5 y6 y7, LeO (QD.j2 k h y0 y1 y2 y3 y4 y5 y6 y7) (QD.j2 (k + 1) h' y0 y1 y2 y3 y4 y5 y6 y7) := fun _ _ _ _ _ _ _ _ => (LeO.bind (YN.mono k _ _ _) fun _ => LeO.ite (hl.l0 _ _ _ _ _ _) (LeO.refl _))
theorem QD.b0_mono {k : Nat} {h h' : QD.Hs} (hl : QD.LE h h') : ∀ y0 y1 y2 y3 y4 y5, LeO (QD.b0 k h y0 y1 y2 y3 y4 y5) (QD.b0 (k + 1) h' y0 y1 y2 y3 y4 y5) := fun _ _ _ _ _ _ => (LeO.ite (LeO.ite (LeO.ite (LeO.ite (QD.j2_mono (k := k) hl _ _ _ _ _ _ _ _) (LeO.refl _)) (QD.j2_mono (k := k) hl _ _ _ _ _ _ _ _)) (LeO.refl _)) (LeO.bind (QS.mono k _) fun _ => LeO.refl _))
theorem QD.hs_mono : ∀ k, QD.LE (QD.hs k) (QD.hs (k + 1))
 | 0 => ⟨fun _ _ _ _ _ _ => LeO.none _⟩
 | k + 1 => ⟨QD.b0_mono (k := k) (QD.hs_mono k)⟩
theorem QD.mono : ∀ k y0 y1, LeO (QD.f k y0 y1) (QD.f (k + 1) y0 y1) := fun k _ _ => have hl := QD.hs_mono k; by unfold QD.f; exact (LeO.ite (hl.l0 _ _ _ _ _ _) (LeO.refl _))
noncomputable def QD.Kl0 : List Item := .code (lopB (blkB (seqR (seqL (seqR (seqR (seqR QD.C))))))) :: .inLoop (lopB (blkB (seqR (seqL (seqR (seqR (seqR QD.C))))))) :: .inBlock 0 :: .code (seqR (seqR (seqR (seqR QD.C)))) :: []
noncomputable def QD.Kj2 : List Item := .code (seqR (seqR (seqR (blkB (seqL (seqR (seqR (lopB (blkB (seqR (seqL (seqR (seqR (seqR QD.C)))))))))))))) :: .inBlock 1 :: .code (seqR (seqR (seqR (lopB (blkB (seqR (seqL (seqR (seqR (seqR QD.C)))))))))) :: .inLoop (lopB (blkB (seqR (seqL (seqR (seqR (seqR QD.C))))))) :: .inBlock 0 :: .code (seqR (seqR (seqR (seqR QD.C)))) :: []
structure QD.OK (h : QD.Hs) : Prop where
 l0 : ∀ {H0 H : Hp} {L : Items} {r : (List Int)} {jk_ : Nat → Value} {b : List Int} {out : List Int} {borrow : Int} {t14 : List Int} {t15 : Int} {t16 : Int} {v_b : Value} {v_out : Value} {v_t14 : Value} {i_out : Item'} (_ : H0.le H) (_he : h.l0 b out borrow t14 t15 t16 = some r) (_h_b : Src kU32 H L v_b b) (_h_out : Sl kU32 H 167 i_out v_out out) (_h_t14 : Src kU32 H L v_t14 t14), Wp Tryz.prog 143 43 QD.Kl0 (upd (upd (upd (upd (upd (upd (upd jk_ 1 (v_b)) 4 (.slice none 0 0)) 5 (v_out)) 6 (.int .u32 borrow)) 14 (v_t14)) 15 (.int .i64 t15)) 16 (.int .i64 t16)) H (i_out :: L) (QD.R H0 L r)
theorem QD.j2_ok {k : Nat} {h : QD.Hs} (hh : QD.OK h) {H0 H : Hp} {L : Items} {r : (List Int)} {jk_ : Nat → Value} {b out : List Int} {borrow x y : Int} {t14 : List Int} {t15 t16 : Int} {v_b v_out v_t14 : Value} {i_out : Item'} (hle : H0.le H) (he : QD.j2 k h b out borrow x y t14 t15 t16 = some r) (h_b : Src kU32 H L v_b b) (h_out : Sl kU32 H 167 i_out v_out out) (h_t14 : Src kU32 H L v_t14 t14) : Wp Tryz.prog 143 43 QD.Kj2 (upd (upd (upd (upd (upd (upd (upd (upd (upd jk_ 1 (v_b)) 4 (.slice none 0 0)) 5 (v_out)) 6 (.int .u32 borrow)) 8 (.int .u32 x)) 9 (.int .u32 y)) 14 (v_t14)) 15 (.int .i64 t15)) 16 (.int .i64 t16)) H (i_out :: L) (QD.R H0 L r) := by
 unfold QD.j2 at he
 unfold QD.Kj2
 refine wR rfl <| wA (.int .u32 0) rfl rfl <| wQ rfl <| wM (.int .u32 x) rfl rfl <| wM (.int .u32 y) rfl rfl <| wM (.int .u32 borrow) rfl rfl <| bK he fun y18 hy19 he => w_d rfl (Xx (Qm co159 (vs := [.int .u32 x, .int .u32 y, .int .u32 borrow]) rfl (YN.calls k hy19))) <| wM (.tuple ⟨[.int .u32 y18.1, .int .u32 y18.2]⟩) rfl rfl ?_
 refine w_d rfl (Q6 rfl rfl) <| w_d rfl (Q6 rfl rfl) <| wA (.int .u32 y18.1) rfl rfl <| wA (.int .u32 y18.2) rfl rfl <| Qb <| QU rfl <| wM v_out rfl rfl <| wM (.int .u32 y18.1) rfl rfl <| w_a rfl (o_buildSlice' (kd := kU32) (css := [[.int .u32 y18.1]]) (xs := [y18.1]) (parts := [(0, .int .u32 y18.1)]) Tryz.underlying22 ti167 rfl ⟨_, _, rfl, rfl, rfl⟩ ⟨rfl, trivial⟩ rfl (by decide)) ?_
 rintro v22 _ _ ⟨i23, rfl, rfl, h24⟩
 refine rK he fun c25 he => w_a rfl (o_append' (kd := kU32) (F := fun z_ => i23 :: z_ :: L) Tryz.underlying22 Tryz.underlying22 ti167 rfl (by first | omega | (simp only [List.nil_append, List.length_cons, List.length_nil]; omega)) rfl rfl h_out (h24.src .here) (fun _ => .h1)) ?_
 rintro v26 _ _ ⟨i27, rfl, rfl, h28⟩
 refine wA v26 rfl rfl <| Qb <| XC <| QU rfl <| w_d rfl (XR (c := w64 (t16 + 1)) rfl rfl rfl) <| wM (.int .i64 (w64 (t16 + 1))) rfl rfl <| Qb <| XL <| YB .here <| w_sl 1 (v_b) rfl <| w_sl 4 (.slice none 0 0) rfl <| w_sl 5 (v26) rfl ?_
 refine w_sl 6 (.int .u32 y18.2) rfl <| w_sl 14 (v_t14) rfl <| w_sl 15 (.int .i64 t15) rfl <| w_sl 16 (.int .i64 (w64 (t16 + 1))) rfl <| hh.l0 hle he h_b h28 h_t14
theorem QD.b0_ok {k : Nat} {h : QD.Hs} (hh : QD.OK h) {H0 H : Hp} {L : Items} {r : (List Int)} {jk_ : Nat → Value} {b out : List Int} {borrow : Int} {t14 : List Int} {t15 t16 : Int} {v_b v_out v_t14 : Value} {i_out : Item'} (hle : H0.le H) (he : QD.b0 k h b out borrow t14 t15 t16 = some r) (h_b : Src kU32 H L v_b b) (h_out : Sl kU32 H 167 i_out v_out out) (h_t14 : Src kU32 H L v_t14 t14) : Wp Tryz.prog 143 43 QD.Kl0 (upd (upd (upd (upd (upd (upd (upd jk_ 1 (v_b)) 4 (.slice none 0 0)) 5 (v_out)) 6 (.int .u32 borrow)) 14 (v_t14)) 15 (.int .i64 t15)) 16 (.int .i64 t16)) H (i_out :: L) (QD.R H0 L r) := by
 unfold QD.b0 at he
 unfold QD.Kl0
 refine wR rfl <| w_d rfl (XY rfl rfl) <| wE ?_
 rcases its he with ⟨c5, he⟩ | ⟨c5, he⟩
 ·
  refine QE rfl (dt c5) <| QH <| Q0 <| Xa <| wR rfl <| wM (.int .i64 t16) rfl rfl <| rK he fun c6 he => w_d rfl (XK (sz := 1) Tryz.underlying22 sz167 rfl h_t14.th rfl c6) <| w_d rfl (XP ty167 rfl h_t14.th c6) <| wA (.int .i64 t16) rfl rfl <| wA (.int .u32 (rd t14 t16)) rfl rfl ?_
  refine wQ rfl <| wA (.int .u32 0) rfl rfl <| wE <| wR rfl <| wM (.int .i64 t16) rfl rfl <| wM v_b rfl rfl <| w_d rfl (Xr Tryz.underlying22 rfl h_b.th) <| w_d rfl (XY rfl rfl) ?_
  refine Qb ?_
  rcases its he with ⟨c7, he⟩ | ⟨c7, he⟩
  ·
   refine QE rfl (dt c7) <| QU rfl <| wM v_b rfl rfl <| wM (.int .i64 t16) rfl rfl <| rK he fun c8 he => w_d rfl (XK (sz := 1) Tryz.underlying22 sz167 rfl h_b.th rfl c8) <| w_d rfl (XP ty167 rfl h_b.th c8) <| wA (.int .u32 (rd b t16)) rfl rfl <| Qb <| w_sl 1 (v_b) rfl <| w_sl 4 (.slice none 0 0) rfl <| w_sl 5 (v_out) rfl ?_
   refine w_sl 6 (.int .u32 borrow) rfl <| w_sl 8 (.int .u32 (rd t14 t16)) rfl <| w_sl 9 (.int .u32 (rd b t16)) rfl <| w_sl 14 (v_t14) rfl <| w_sl 15 (.int .i64 t15) rfl <| w_sl 16 (.int .i64 t16) rfl <| QD.j2_ok (k := k) hh hle he h_b h_out h_t14
  ·
   refine QF rfl (df c7) <| QH <| w_sl 1 (v_b) rfl <| w_sl 4 (.slice none 0 0) rfl <| w_sl 5 (v_out) rfl <| w_sl 6 (.int .u32 borrow) rfl <| w_sl 8 (.int .u32 (rd t14 t16)) rfl <| w_sl 9 (.int .u32 0) rfl <| w_sl 14 (v_t14) rfl <| w_sl 15 (.int .i64 t15) rfl <| w_sl 16 (.int .i64 t16) rfl <| QD.j2_ok (k := k) hh hle he h_b h_out h_t14
 ·
  refine QF rfl (df c5) <| X8 rfl <| wR rfl <| wM v_out rfl rfl <| YA h_out .here ?_
  intro H9 e10 h11
  refine bK he fun y12 hy13 he => w_a rfl (Qm co113 (vs := [v_out]) rfl (QS.calls k hy13 h11)) ?_
  rintro v16 H14 _ ⟨rfl, e15, h17⟩
  refine wA v16 rfl rfl <| Qb ?_
  obtain rfl := sj he
  refine Qn fn_143 rs_143 (.tmp (v := v16) rfl .nil) <| ⟨⟨[_], rfl⟩, hle.trans (e10.trans e15), h17⟩
theorem QD.ok : ∀ k, QD.OK (QD.hs k)
 | 0 => ⟨(by intros; exact nomatch (show none = some _ from by assumption))⟩
 | k + 1 => ⟨QD.b0_ok (k := k) (QD.ok k)⟩
theorem QD.calls (k : Nat) {H : Hp} {L : Items} {a b : List Int} {v0_a v1_b : Value} {r : (List Int)} (he : QD.f k a b = some r) (h0_a : Src kU32 H L v0_a a) (h1_b : Src kU32 H L v1_b b) : Ct Tryz.prog 143 ⟨[v0_a, v1_b]⟩ H L (cR H L (QD.out r)) := by
 refine XO (O := QD.out r) ?_
 have hle : H.le H := .refl _
 have hh := QD.ok k
 unfold QD.f at he
 refine QV (args := [_, _]) fn_143 rfl nt_143 rfl <| wR rfl <| wA (.slice none 0 0) rfl rfl <| wQ rfl <| wM v0_a rfl rfl <| w_d rfl (Xr Tryz.underlying22 rfl h0_a) <| rK he fun c1 he => w_a rfl (o_make' (kd := kU32) (z0 := 0) Tryz.underlying22 ti167 (zp167 _) rfl rfl (by omega) (by omega) (by omega)) ?_
 rintro v2 _ _ ⟨i3, rfl, rfl, h4⟩
 refine wA v2 rfl rfl <| wQ rfl <| wA (.int .u32 0) rfl rfl <| wE <| wR rfl <| wM v0_a rfl rfl <| w_d rfl (Xr Tryz.underlying22 rfl h0_a.th) <| wM (.int .i64 0) rfl rfl ?_
 refine Qb <| Xa <| X9 <| w_sl 1 (v1_b) rfl <| w_sl 4 (.slice none 0 0) rfl <| w_sl 5 (v2) rfl <| w_sl 6 (.int .u32 0) rfl <| w_sl 14 (v0_a) rfl <| w_sl 15 (.int .i64 (a.length : Int)) rfl <| w_sl 16 (.int .i64 0) rfl <| hh.l0 hle he h1_b h4 h0_a
noncomputable def Xc.C : Code := (Tryz.f127.body).getD .skip
def Xc.out (r : Qs × (Option Int)) (H : Hp) (v : Value) : Prop := ∃ v0, v = .tuple ⟨[(Qc r.1 v0), errV 104 r.2]⟩ ∧ Ro kU32 H v0 r.1.f_w
theorem Xc.out_mono (r : Qs × (Option Int)) {H H' : Hp} {v : Value} (hle : H.le H') (h : Xc.out r H v) : Xc.out r H' v := by
 obtain ⟨v0, rfl, h0⟩ := h; exact ⟨v0, rfl, h0.mono hle⟩
abbrev Xc.R (H0 : Hp) (L : Items) (r : Qs × (Option Int)) := fR H0 L (Xc.out r)
noncomputable def Xc.j1 (k : Nat) (a_0 : Bool) (a_1 : List Int) (b_0 : Bool) (b_1 : List Int) : Option (Qs × (Option Int)) := (QD.f k a_1 b_1).bind fun y26 => (XG.f k a_0 y26).bind fun y32 => some (y32.1, y32.2)
noncomputable def Xc.f (k : Nat) (a b : Qs) : Option (Qs × (Option Int)) := if (a.f_neg == b.f_neg) = true then ((Qw.f k a.f_w b.f_w).bind fun y5 => (XG.f k a.f_neg y5).bind fun y11 => some (y11.1, y11.2)) else ((Q2.f k a.f_w b.f_w).bind fun y21 => if y21 < 0 then (Xc.j1 k b.f_neg b.f_w a.f_neg a.f_w) else (Xc.j1 k a.f_neg a.f_w b.f_neg b.f_w))
theorem Xc.j1_mono {k : Nat} : ∀ y0 y1 y2 y3, LeO (Xc.j1 k y0 y1 y2 y3) (Xc.j1 (k + 1) y0 y1 y2 y3) := fun _ _ _ _ => (LeO.bind (QD.mono k _ _) fun _ => LeO.bind (XG.mono k _ _) fun _ => LeO.refl _)
theorem Xc.mono : ∀ k y0 y1, LeO (Xc.f k y0 y1) (Xc.f (k + 1) y0 y1) := fun k _ _ => by unfold Xc.f; exact (LeO.ite (LeO.bind (Qw.mono k _ _) fun _ => LeO.bind (XG.mono k _ _) fun _ => LeO.refl _) (LeO.bind (Q2.mono k _ _) fun _ => LeO.ite (Xc.j1_mono (k := k)  _ _ _ _) (Xc.j1_mono (k := k)  _ _ _ _)))
noncomputable def Xc.Kj1 : List Item := .code (seqR (seqR (seqR Xc.C))) :: []
theorem Xc.j1_ok {k : Nat} {H0 H : Hp} {L : Items} {r : Qs × (Option Int)} {jk_ : Nat → Value} {a_0 : Bool} {a_1 : List Int} {b_0 : Bool} {b_1 : List Int} {v_a_1 v_b_1 : Value} {b_a b_b b_t4 : Nat} (hle : H0.le H) (he : Xc.j1 k a_0 a_1 b_0 b_1 = some r) (h_a_1 : Ro kU32 H v_a_1 a_1) (h_b_1 : Ro kU32 H v_b_1 b_1) : Wp Tryz.prog 127 39 Xc.Kj1 (upd (upd (upd (upd jk_ 2 (pt b_a)) 3 (pt b_b)) 4 (pt b_t4)) 5 (errV 104 none)) H (bx b_t4 [.bool false, .slice none 0 0] 24 :: bx b_b [.bool b_0, v_b_1] 24 :: bx b_a [.bool a_0, v_a_1] 24 :: L) (Xc.R H0 L r) := by
 unfold Xc.j1 at he
 unfold Xc.Kj1
 refine Q0 <| bK he fun y26 hy27 he => bK he fun y32 hy33 he => Xy (p := 10) (tl := [10, 11]) [[], [(0, some 29)], [], [(2, some 31)], [], [(4, some 33)], [(3, some 32), (5, some 34)], [(1, some 30), (6, some 35)], [(7, some 36)], [(7, some 36)]] [some 29, some 30, some 31, some 32, some 33, some 34, some 35, some 36, some 37, some 38] (fctF (.is (pt b_a) :: .is (.bool a_0) :: .is (po b_a 1) :: .is (v_a_1) :: .is (po b_b 1) :: .is (v_b_1) :: .ro kU32 (y26) :: .of (XG.out y32) (XG.out_mono _) :: .of (fun H v => ∃ v38, v = (Qc y32.1 v38) ∧ Ro kU32 H v38 y32.1.f_w) (by rintro _ _ _ hle ⟨v38, rfl, h39⟩; exact ⟨v38, rfl, h39.mono hle⟩) :: .is (errV 104 y32.2) :: [])) (fun m_ => bx b_t4 [.bool false, .slice none 0 0] 24 :: bx b_b [.bool b_0, v_b_1] 24 :: bx b_a [.bool a_0, v_a_1] 24 :: L) (fun _ => none) mixed (by kernel_rfl) (by kernel_rfl) rfl (Xn (by kernel_rfl)) ⟨(fun H' m_ hH hm_ hu_ => dn <| s_d (m_ 0) rfl (Q9 (o' := 0) Tryz.underlying24 rfl sz4 rfl rfl rfl) (by exact rfl) rfl), (by rintro H' m_ hH hm_ hu_ _ rfl; exact dn <| s_d (m_ 1) rfl (QG (v := .bool a_0) ty4 rfl .h2 rfl rfl rfl rfl) (by exact rfl) rfl), (fun H' m_ hH hm_ hu_ => dn <| s_d (m_ 2) rfl (Q9 (o' := 1) Tryz.underlying24 rfl sz22 rfl rfl rfl) (by exact rfl) rfl), (by rintro H' m_ hH hm_ hu_ _ rfl; exact dn <| s_d (m_ 3) rfl (QG (v := v_a_1) ty22 rfl .h2 rfl rfl rfl rfl) (by exact rfl) rfl), (fun H' m_ hH hm_ hu_ => dn <| s_d (m_ 4) rfl (Q9 (o' := 1) Tryz.underlying24 rfl sz22 rfl rfl rfl) (by exact rfl) rfl), (by rintro H' m_ hH hm_ hu_ _ rfl; exact dn <| s_d (m_ 5) rfl (QG (v := v_b_1) ty22 rfl .h1 rfl rfl rfl rfl) (by exact rfl) rfl), (by rintro H' m_ hH hm_ hu_ _ rfl _ rfl; exact dn <| s_k (m_ 6) rfl (Qm co143 (vs := [v_a_1, v_b_1]) rfl (QD.calls k hy27 ((h_a_1.mono hH).src) ((h_b_1.mono hH).src))) rfl (by rintro v_ H_ _ ⟨rfl, e_, h_⟩; exact ⟨rfl, e_, h_⟩)), (by rintro H' m_ hH hm_ hu_ _ rfl v30 (h31 : Ro kU32 H' v30 y26); exact dn <| s_k (m_ 7) rfl (Qm co115 (vs := [.bool a_0, v30]) rfl (XG.calls k hy33 h31)) rfl (by rintro v_ H_ _ ⟨rfl, e_, h_⟩; exact ⟨rfl, e_, h_⟩)), (by rintro H' m_ hH hm_ hu_ _ ⟨v36, rfl, h37⟩; exact dn <| s_d (m_ 8) rfl (Q6 rfl rfl) (by exact ⟨v36, rfl, h37⟩) rfl), (by rintro H' m_ hH hm_ hu_ _ ⟨v36, rfl, h37⟩; exact dn <| s_d (m_ 9) rfl (Q6 rfl rfl) (by exact rfl) rfl), trivial⟩ ?_
 intro H40 e41
 rintro _ _ rfl _ _ rfl _ _ rfl _ _ rfl _ _ rfl _ _ rfl v30 _ (h31 : Ro kU32 H40 v30 y26) _ _ ⟨v36, rfl, h37⟩ _ _ ⟨v38, rfl, h39⟩ _ _ rfl
 refine wS (Qc y32.1 v38) sz24 rfl rfl rfl rfl rfl (XD h39) .here u2 <| wA (errV 104 y32.2) rfl rfl <| Qb ?_
 obtain rfl := sj he
 refine Qn fn_127 rs_127 (.box (v := (Qc y32.1 v38)) rfl ty24 rfl rfl .here rfl (.tmp (v := errV 104 y32.2) rfl .nil)) <| ⟨⟨[_, _, _], rfl⟩, hle.trans e41, ⟨v38, rfl, h39⟩⟩
theorem Xc.calls (k : Nat) {H : Hp} {L : Items} {a b : Qs} {v0_a v1_b : Value} {r : Qs × (Option Int)} (he : Xc.f k a b = some r) (h0_a : Ro kU32 H v0_a a.f_w) (h1_b : Ro kU32 H v1_b b.f_w) : Ct Tryz.prog 127 ⟨[(Qc a v0_a), (Qc b v1_b)]⟩ H L (cR H L (Xc.out r)) := by
 refine XO (O := Xc.out r) ?_
 have hle : H.le H := .refl _
 unfold Xc.f at he
 refine QV (args := [_, _]) fn_127 rfl nt_127 rfl <| wR rfl <| wB (Qc a v0_a) rfl rfl rfl <| fun b1 => wB (Qc b v1_b) rfl rfl rfl <| fun b2 => wN zr24 rfl rfl fun b3 => wA (errV 104 none) rfl rfl <| wE <| wR rfl <| w_d rfl (Q9 (o' := 0) Tryz.underlying24 rfl sz4 rfl rfl rfl) ?_
 refine wL (.bool a.f_neg) ty4 rfl rfl .h2 rfl rfl <| w_d rfl (Q9 (o' := 0) Tryz.underlying24 rfl sz4 rfl rfl rfl) <| wL (.bool b.f_neg) ty4 rfl rfl .h1 rfl rfl <| w_d rfl (VE (a := a.f_neg) (b := b.f_neg) Tryz.underlying4 rfl rfl) <| Qb ?_
 rcases its he with ⟨c4, he⟩ | ⟨c4, he⟩
 ·
  refine QE rfl c4 <| Q0 <| bK he fun y5 hy6 he => bK he fun y11 hy12 he => Xy (p := 10) (tl := [10, 11]) [[], [(0, some 11)], [], [(2, some 13)], [], [(4, some 15)], [(3, some 14), (5, some 16)], [(1, some 12), (6, some 17)], [(7, some 18)], [(7, some 18)]] [some 11, some 12, some 13, some 14, some 15, some 16, some 17, some 18, some 19, some 20] (fctF (.is (pt b1) :: .is (.bool a.f_neg) :: .is (po b1 1) :: .is (v0_a) :: .is (po b2 1) :: .is (v1_b) :: .ro kU32 (y5) :: .of (XG.out y11) (XG.out_mono _) :: .of (fun H v => ∃ v17, v = (Qc y11.1 v17) ∧ Ro kU32 H v17 y11.1.f_w) (by rintro _ _ _ hle ⟨v17, rfl, h18⟩; exact ⟨v17, rfl, h18.mono hle⟩) :: .is (errV 104 y11.2) :: [])) (fun m_ => bx b3 [.bool false, .slice none 0 0] 24 :: bx b2 (QM b v1_b) 24 :: bx b1 (QM a v0_a) 24 :: L) (fun _ => none) mixed (by kernel_rfl) (by kernel_rfl) rfl (Xn (by kernel_rfl)) ⟨(fun H' m_ hH hm_ hu_ => dn <| s_d (m_ 0) rfl (Q9 (o' := 0) Tryz.underlying24 rfl sz4 rfl rfl rfl) (by exact rfl) rfl), (by rintro H' m_ hH hm_ hu_ _ rfl; exact dn <| s_d (m_ 1) rfl (QG (v := .bool a.f_neg) ty4 rfl .h2 rfl rfl rfl rfl) (by exact rfl) rfl), (fun H' m_ hH hm_ hu_ => dn <| s_d (m_ 2) rfl (Q9 (o' := 1) Tryz.underlying24 rfl sz22 rfl rfl rfl) (by exact rfl) rfl), (by rintro H' m_ hH hm_ hu_ _ rfl; exact dn <| s_d (m_ 3) rfl (QG (v := v0_a) ty22 rfl .h2 rfl rfl rfl rfl) (by exact rfl) rfl), (fun H' m_ hH hm_ hu_ => dn <| s_d (m_ 4) rfl (Q9 (o' := 1) Tryz.underlying24 rfl sz22 rfl rfl rfl) (by exact rfl) rfl), (by rintro H' m_ hH hm_ hu_ _ rfl; exact dn <| s_d (m_ 5) rfl (QG (v := v1_b) ty22 rfl .h1 rfl rfl rfl rfl) (by exact rfl) rfl), (by rintro H' m_ hH hm_ hu_ _ rfl _ rfl; exact dn <| s_k (m_ 6) rfl (Qm co144 (vs := [v0_a, v1_b]) rfl (Qw.calls k hy6 ((h0_a.mono hH).src) ((h1_b.mono hH).src))) rfl (by rintro v_ H_ _ ⟨rfl, e_, h_⟩; exact ⟨rfl, e_, h_⟩)), (by rintro H' m_ hH hm_ hu_ _ rfl v9 (h10 : Ro kU32 H' v9 y5); exact dn <| s_k (m_ 7) rfl (Qm co115 (vs := (QM a v9)) rfl (XG.calls k hy12 h10)) rfl (by rintro v_ H_ _ ⟨rfl, e_, h_⟩; exact ⟨rfl, e_, h_⟩)), (by rintro H' m_ hH hm_ hu_ _ ⟨v15, rfl, h16⟩; exact dn <| s_d (m_ 8) rfl (Q6 rfl rfl) (by exact ⟨v15, rfl, h16⟩) rfl), (by rintro H' m_ hH hm_ hu_ _ ⟨v15, rfl, h16⟩; exact dn <| s_d (m_ 9) rfl (Q6 rfl rfl) (by exact rfl) rfl), trivial⟩ ?_
  intro H19 e20
  rintro _ _ rfl _ _ rfl _ _ rfl _ _ rfl _ _ rfl _ _ rfl v9 _ (h10 : Ro kU32 H19 v9 y5) _ _ ⟨v15, rfl, h16⟩ _ _ ⟨v17, rfl, h18⟩ _ _ rfl
  refine wS (Qc y11.1 v17) sz24 rfl rfl rfl rfl rfl (XD h18) .here u2 <| wA (errV 104 y11.2) rfl rfl <| Qb ?_
  obtain rfl := sj he
  refine Qn fn_127 rs_127 (.box (v := (Qc y11.1 v17)) rfl ty24 rfl rfl .here rfl (.tmp (v := errV 104 y11.2) rfl .nil)) <| ⟨⟨[_, _, _], rfl⟩, hle.trans e20, ⟨v17, rfl, h18⟩⟩
 ·
  refine QF rfl (Bool.eq_false_iff.2 c4) <| QH <| Q0 <| wR rfl <| w_d rfl (Q9 (o' := 1) Tryz.underlying24 rfl sz22 rfl rfl rfl) <| wL v0_a ty22 rfl rfl .h2 rfl rfl <| w_d rfl (Q9 (o' := 1) Tryz.underlying24 rfl sz22 rfl rfl rfl) <| wL v1_b ty22 rfl rfl .h1 rfl rfl <| bK he fun y21 hy22 he => w_d rfl (Xx (Qm co137 (vs := [v0_a, v1_b]) rfl (Q2.calls k hy22 h0_a.src h1_b.src))) <| w_d rfl (XY rfl rfl) ?_
  refine Qb ?_
  rcases its he with ⟨c25, he⟩ | ⟨c25, he⟩
  ·
   refine QE rfl (dt c25) <| QU rfl <| wL (Qc b v1_b) ty24 rfl rfl .h1 rfl rfl <| wL (Qc a v0_a) ty24 rfl rfl .h2 rfl rfl <| wS (Qc b v1_b) sz24 rfl rfl rfl rfl rfl (XD h1_b) .h2 u2 <| wS (Qc a v0_a) sz24 rfl rfl rfl rfl rfl (XD h0_a) .h1 u2 <| Qb <| w_sl 2 (pt b1) rfl <| w_sl 3 (pt b2) rfl <| w_sl 4 (pt b3) rfl <| w_sl 5 (errV 104 none) rfl <| Xc.j1_ok (k := k) hle he h1_b h0_a
  ·
   refine QF rfl (df c25) <| QH <| w_sl 2 (pt b1) rfl <| w_sl 3 (pt b2) rfl <| w_sl 4 (pt b3) rfl <| w_sl 5 (errV 104 none) rfl <| Xc.j1_ok (k := k) hle he h0_a h1_b
noncomputable def Xk.C : Code := (Tryz.f124.body).getD .skip
def Xk.out (r : Qs × Qs × (Option Int)) (H : Hp) (v : Value) : Prop := ∃ v0 v1, v = .tuple ⟨[(Qc r.1 v0), (Qc r.2.1 v1), errV 104 r.2.2]⟩ ∧ Ro kU32 H v0 r.1.f_w ∧ Ro kU32 H v1 r.2.1.f_w
abbrev Xk.R (H0 : Hp) (L : Items) (r : Qs × Qs × (Option Int)) := fR H0 L (Xk.out r)
noncomputable def Xk.j1 (k : Nat) (b_0 : Bool) (b_1 r_ : List Int) (x_0 : Bool) (x_1 : List Int) (one_0 : Bool) (one_1 : List Int) : Option (Qs × Qs × (Option Int)) := (Xc.f k ⟨x_0, x_1⟩ ⟨one_0, one_1⟩).bind fun y50 => if y50.2.isSome = true then (some (⟨false, []⟩, ⟨false, []⟩, y50.2)) else ((QD.f k b_1 r_).bind fun y57 => some (y50.1, ⟨false, y57⟩, none))
noncomputable def Xk.f (k : Nat) (a b : Qs) : Option (Qs × Qs × (Option Int)) := if (b.f_w.length : Int) = 0 then (some (⟨false, []⟩, ⟨false, []⟩, some 11)) else ((QL.f k a.f_w b.f_w).bind fun y6 => (XG.f k (!(a.f_neg == b.f_neg)) y6.1).bind fun y14 => if y14.2.isSome = true then (some (⟨false, []⟩, ⟨false, []⟩, y14.2)) else (if ((!a.f_neg) || (decide ((y6.2.length : Int) = 0))) = true then ((Q8.f k y6.2).bind fun y26 => some (y14.1, ⟨false, y26⟩, none)) else ((XH.f k 1).bind fun y36 => if (!b.f_neg) = true then ((Xv.f k y36).bind fun y44 => Xk.j1 k b.f_neg b.f_w y6.2 y14.1.f_neg y14.1.f_w y44.f_neg y44.f_w) else (Xk.j1 k b.f_neg b.f_w y6.2 y14.1.f_neg y14.1.f_w y36.f_neg y36.f_w))))
theorem Xk.j1_mono {k : Nat} : ∀ y0 y1 y2 y3 y4 y5 y6, LeO (Xk.j1 k y0 y1 y2 y3 y4 y5 y6) (Xk.j1 (k + 1) y0 y1 y2 y3 y4 y5 y6) := fun _ _ _ _ _ _ _ => (LeO.bind (Xc.mono k _ _) fun _ => LeO.ite (LeO.refl _) (LeO.bind (QD.mono k _ _) fun _ => LeO.refl _))
theorem Xk.mono : ∀ k y0 y1, LeO (Xk.f k y0 y1) (Xk.f (k + 1) y0 y1) := fun k _ _ => by unfold Xk.f; exact (LeO.ite (LeO.refl _) (LeO.bind (QL.mono k _ _) fun _ => LeO.bind (XG.mono k _ _) fun _ => LeO.ite (LeO.refl _) (LeO.ite (LeO.bind (Q8.mono k _) fun _ => LeO.refl _) (LeO.bind (XH.mono k _) fun _ => LeO.ite (LeO.bind (Xv.mono k _) fun _ => Xk.j1_mono (k := k)  _ _ _ _ _ _ _) (Xk.j1_mono (k := k)  _ _ _ _ _ _ _)))))
noncomputable def Xk.Kj1 : List Item := .code (seqR (seqR (seqR (seqR (seqR (seqR (seqR (seqR Xk.C)))))))) :: []
theorem Xk.j1_ok {k : Nat} {H0 H : Hp} {L : Items} {r : Qs × Qs × (Option Int)} {jk_ : Nat → Value} {b_0 : Bool} {b_1 r_ : List Int} {x_0 : Bool} {x_1 : List Int} {one_0 : Bool} {one_1 : List Int} {v_b_1 v_r_ v_x_1 v_one_1 : Value} {b_b b_t4 b_t5 b_x b_one_ : Nat} (hle : H0.le H) (he : Xk.j1 k b_0 b_1 r_ x_0 x_1 one_0 one_1 = some r) (h_b_1 : Ro kU32 H v_b_1 b_1) (h_r_ : Ro kU32 H v_r_ r_) (h_x_1 : Ro kU32 H v_x_1 x_1) (h_one_1 : Ro kU32 H v_one_1 one_1) : Wp Tryz.prog 124 77 Xk.Kj1 (upd (upd (upd (upd (upd (upd (upd jk_ 3 (pt b_b)) 4 (pt b_t4)) 5 (pt b_t5)) 6 (errV 104 none)) 8 (v_r_)) 9 (pt b_x)) 11 (pt b_one_)) H (bx b_one_ [.bool one_0, v_one_1] 24 :: bx b_x [.bool x_0, v_x_1] 24 :: bx b_t5 [.bool false, .slice none 0 0] 24 :: bx b_t4 [.bool false, .slice none 0 0] 24 :: bx b_b [.bool b_0, v_b_1] 24 :: L) (Xk.R H0 L r) := by
 unfold Xk.j1 at he
 unfold Xk.Kj1
 refine wR rfl <| wL (.agg ⟨[.bool x_0, v_x_1]⟩) ty24 rfl rfl .h1 rfl rfl <| wL (.agg ⟨[.bool one_0, v_one_1]⟩) ty24 rfl rfl .here rfl rfl <| bK he fun y50 hy51 he => w_a rfl (Qm co127 (vs := [.agg ⟨[.bool x_0, v_x_1]⟩, .agg ⟨[.bool one_0, v_one_1]⟩]) rfl (Xc.calls k (a := ⟨x_0, x_1⟩) (b := ⟨one_0, one_1⟩) hy51 h_x_1 h_one_1)) ?_
 rintro _ H52 _ ⟨rfl, e53, v54, rfl, h55⟩
 refine wM (.tuple ⟨[(Qc y50.1 v54), errV 104 y50.2]⟩) rfl rfl <| w_d rfl (Q6 rfl rfl) <| w_d rfl (Q6 rfl rfl) <| wS (Qc y50.1 v54) sz24 rfl rfl rfl rfl rfl (XD h55) .h1 u2 <| wA (errV 104 y50.2) rfl rfl <| wE <| wR rfl <| wM (errV 104 y50.2) rfl rfl <| w_d rfl (Yp (e := y50.2) Tryz.underlying30 rfl) <| Qb ?_
 rcases its he with ⟨c56, he⟩ | ⟨c56, he⟩
 ·
  refine QE rfl c56 <| wR rfl <| w_d rfl (XF (cs' := [.bool false, .slice none 0 0]) Tryz.underlying24 zr24 rfl (by kernel_rfl) (parts := []) rfl .nil) <| w_d rfl (XF (cs' := [.bool false, .slice none 0 0]) Tryz.underlying24 zr24 rfl (by kernel_rfl) (parts := []) rfl .nil) <| wM (errV 104 y50.2) rfl rfl <| wS (.agg ⟨[.bool false, .slice none 0 0]⟩) sz24 rfl rfl rfl rfl rfl (oc rfl (oc rfl oz)) .h3 u2 <| wS (.agg ⟨[.bool false, .slice none 0 0]⟩) sz24 rfl rfl rfl rfl rfl (oc rfl (oc rfl oz)) .h2 u2 <| wA (errV 104 y50.2) rfl rfl <| Qb ?_
  obtain rfl := sj he
  refine Qn fn_124 rs_124 (.box (v := .agg ⟨[.bool false, .slice none 0 0]⟩) rfl ty24 rfl rfl .h3 rfl (.box (v := .agg ⟨[.bool false, .slice none 0 0]⟩) rfl ty24 rfl rfl .h2 rfl (.tmp (v := errV 104 y50.2) rfl .nil))) <| ⟨⟨[_, _, _, _, _], rfl⟩, hle.trans e53, ⟨.slice none 0 0, .slice none 0 0, rfl, (Xg _ _), (Xg _ _)⟩⟩
 ·
  refine QF rfl (Bool.eq_false_iff.2 c56) <| QH <| Q0 <| bK he fun y57 hy58 he => Xy (p := 7) (tl := [7, 8]) [[], [], [(1, some 72)], [], [(2, some 73), (3, some 74)], [(4, some 75)], [(0, some 71)]] [some 71, some 72, some 73, some 74, some 75, some 76, none] (fctF (.is (Qc y50.1 v54) :: .is (po b_b 1) :: .is (v_b_1) :: .is (v_r_) :: .ro kU32 (y57) :: .of (fun H v => ∃ v63, v = .agg ⟨[.bool false, v63]⟩ ∧ Ro kU32 H v63 y57) (by rintro _ _ _ hle ⟨v63, rfl, h64⟩; exact ⟨v63, rfl, h64.mono hle⟩) :: .itm (fun H itq_ => itq_ = bx b_t4 (QM y50.1 v54) 24) (by rintro _ _ _ hle rfl; exact rfl) :: [])) (fun m_ => bx b_one_ [.bool one_0, v_one_1] 24 :: bx b_x (QM y50.1 v54) 24 :: bx b_t5 [.bool false, .slice none 0 0] 24 :: m_ 6 :: bx b_b [.bool b_0, v_b_1] 24 :: L) (fun i_ => if i_ = 6 then bx b_t4 [.bool false, .slice none 0 0] 24 else none) mixed (by kernel_rfl) (by kernel_rfl) rfl (Xn (by kernel_rfl)) ⟨(fun H' m_ hH hm_ hu_ => dn <| s_d (m_ 0) rfl (QG (v := (Qc y50.1 v54)) ty24 rfl .h1 rfl rfl rfl rfl) (by exact rfl) rfl), (fun H' m_ hH hm_ hu_ => dn <| s_d (m_ 1) rfl (Q9 (o' := 1) Tryz.underlying24 rfl sz22 rfl rfl rfl) (by exact rfl) rfl), (by rintro H' m_ hH hm_ hu_ _ rfl; exact dn <| s_d (m_ 2) rfl (QG (v := v_b_1) ty22 rfl .h4 rfl rfl rfl rfl) (by exact rfl) rfl), (fun H' m_ hH hm_ hu_ => dn <| s_d (m_ 3) rfl (QW (v := v_r_) rfl) (by exact rfl) rfl), (by rintro H' m_ hH hm_ hu_ _ rfl _ rfl; exact dn <| s_k (m_ 4) rfl (Qm co143 (vs := [v_b_1, v_r_]) rfl (QD.calls k hy58 ((h_b_1.mono (e53.trans hH)).src) ((h_r_.mono (e53.trans hH)).src))) rfl (by rintro v_ H_ _ ⟨rfl, e_, h_⟩; exact ⟨rfl, e_, h_⟩)), (by rintro H' m_ hH hm_ hu_ v61 (h62 : Ro kU32 H' v61 y57); exact dn <| s_d (m_ 5) rfl (XF (cs' := [.bool false, v61]) Tryz.underlying24 zr24 rfl (by kernel_rfl) (parts := [(0, .bool false), (1, v61)]) rfl (.cons (YF rfl sz4 rfl) rfl rfl u1 (.cons (YF rfl sz22 rfl) h62.cells rfl (.there u1) .nil))) (by exact ⟨v61, rfl, h62⟩) rfl), (by rintro H' m_ hH hm_ hu_ _ rfl; exact dn <| Zu (bx b_t4 (QM y50.1 v54) 24) hm_ rfl (YJ (v := (Qc y50.1 v54)) sz24 rfl rfl rfl rfl (oc rfl (oc (h55.one) oz)) .h3 u2) rfl (by exact ⟨rfl, rfl⟩)), trivial⟩ ?_
  intro H65 e66
  rintro _ _ rfl _ _ rfl _ _ rfl _ _ rfl v61 _ (h62 : Ro kU32 H65 v61 y57) _ _ ⟨v63, rfl, h64⟩ _ _ ⟨rfl, rfl⟩
  refine w_it (L' := bx b_one_ [.bool one_0, v_one_1] 24 :: bx b_x (QM y50.1 v54) 24 :: bx b_t5 [.bool false, .slice none 0 0] 24 :: bx b_t4 (QM y50.1 v54) 24 :: bx b_b [.bool b_0, v_b_1] 24 :: L) rfl <| wS (.agg ⟨[.bool false, v63]⟩) sz24 rfl rfl rfl rfl rfl (oc rfl (oc (h64.one) oz)) .h2 u2 <| wA (errV 104 none) rfl rfl <| Qb ?_
  obtain rfl := sj he
  refine Qn fn_124 rs_124 (.box (v := (Qc y50.1 v54)) rfl ty24 rfl rfl .h3 rfl (.box (v := .agg ⟨[.bool false, v63]⟩) rfl ty24 rfl rfl .h2 rfl (.tmp (v := errV 104 none) rfl .nil))) <| ⟨⟨[_, _, _, _, _], rfl⟩, hle.trans (e53.trans e66), ⟨v54, v63, rfl, (h55.mono e66), h64⟩⟩
theorem Xk.calls (k : Nat) {H : Hp} {L : Items} {a b : Qs} {v0_a v1_b : Value} {r : Qs × Qs × (Option Int)} (he : Xk.f k a b = some r) (h0_a : Ro kU32 H v0_a a.f_w) (h1_b : Ro kU32 H v1_b b.f_w) : Ct Tryz.prog 124 ⟨[(Qc a v0_a), (Qc b v1_b)]⟩ H L (cR H L (Xk.out r)) := by
 refine XO (O := Xk.out r) ?_
 have hle : H.le H := .refl _
 unfold Xk.f at he
 refine QV (args := [_, _]) fn_124 rfl nt_124 rfl <| wR rfl <| wB (Qc a v0_a) rfl rfl rfl <| fun b1 => wB (Qc b v1_b) rfl rfl rfl <| fun b2 => wN zr24 rfl rfl fun b3 => wN zr24 rfl rfl fun b4 => wA (errV 104 none) rfl rfl <| wE <| wR rfl ?_
 refine w_d rfl (Q9 (o' := 1) Tryz.underlying24 rfl sz22 rfl rfl rfl) <| wL v1_b ty22 rfl rfl .h2 rfl rfl <| w_d rfl (Xr Tryz.underlying22 rfl h1_b.src) <| w_d rfl (Zh rfl rfl) <| Qb ?_
 rcases its he with ⟨c5, he⟩ | ⟨c5, he⟩
 ·
  refine QE rfl (dt c5) <| wR rfl <| w_d rfl (XF (cs' := [.bool false, .slice none 0 0]) Tryz.underlying24 zr24 rfl (by kernel_rfl) (parts := []) rfl .nil) <| w_d rfl (XF (cs' := [.bool false, .slice none 0 0]) Tryz.underlying24 zr24 rfl (by kernel_rfl) (parts := []) rfl .nil) <| w_d rfl (Zk (v := .int .i64 11) Tryz.underlying104 rfl rfl) <| wS (.agg ⟨[.bool false, .slice none 0 0]⟩) sz24 rfl rfl rfl rfl rfl (oc rfl (oc rfl oz)) .h1 u2 <| wS (.agg ⟨[.bool false, .slice none 0 0]⟩) sz24 rfl rfl rfl rfl rfl (oc rfl (oc rfl oz)) .here u2 <| wA (errV 104 (some 11)) rfl rfl <| Qb ?_
  obtain rfl := sj he
  refine Qn fn_124 rs_124 (.box (v := .agg ⟨[.bool false, .slice none 0 0]⟩) rfl ty24 rfl rfl .h1 rfl (.box (v := .agg ⟨[.bool false, .slice none 0 0]⟩) rfl ty24 rfl rfl .here rfl (.tmp (v := errV 104 (some 11)) rfl .nil))) <| ⟨⟨[_, _, _, _], rfl⟩, hle, ⟨.slice none 0 0, .slice none 0 0, rfl, (Xg _ _), (Xg _ _)⟩⟩
 ·
  refine QF rfl (df c5) <| QH <| wR rfl <| w_d rfl (Q9 (o' := 1) Tryz.underlying24 rfl sz22 rfl rfl rfl) <| wL v0_a ty22 rfl rfl .h3 rfl rfl <| w_d rfl (Q9 (o' := 1) Tryz.underlying24 rfl sz22 rfl rfl rfl) <| wL v1_b ty22 rfl rfl .h2 rfl rfl <| bK he fun y6 hy7 he => w_a rfl (Qm co142 (vs := [v0_a, v1_b]) rfl (QL.calls k hy7 h0_a h1_b.src)) ?_
  rintro _ H8 _ ⟨rfl, e9, v10, v12, rfl, h11, h13⟩
  refine wM (.tuple ⟨[v10, v12]⟩) rfl rfl <| w_d rfl (Q6 rfl rfl) <| w_d rfl (Q6 rfl rfl) <| wA v10 rfl rfl <| wA v12 rfl rfl <| wQ rfl <| w_d rfl (Q9 (o' := 0) Tryz.underlying24 rfl sz4 rfl rfl rfl) <| wL (.bool a.f_neg) ty4 rfl rfl .h3 rfl rfl <| w_d rfl (Q9 (o' := 0) Tryz.underlying24 rfl sz4 rfl rfl rfl) <| wL (.bool b.f_neg) ty4 rfl rfl .h2 rfl rfl ?_
  refine w_d rfl (Md (a := a.f_neg) (b := b.f_neg) Tryz.underlying4 rfl rfl) <| wM v10 rfl rfl <| bK he fun y14 hy15 he => w_a rfl (Qm co115 (vs := [.bool (!(a.f_neg == b.f_neg)), v10]) rfl (XG.calls k hy15 h11)) ?_
  rintro _ H16 _ ⟨rfl, e17, v18, rfl, h19⟩
  refine wM (.tuple ⟨[(Qc y14.1 v18), errV 104 y14.2]⟩) rfl rfl <| w_d rfl (Q6 rfl rfl) <| w_d rfl (Q6 rfl rfl) <| wN zr24 rfl rfl fun b20 => wS (Qc y14.1 v18) sz24 rfl rfl rfl rfl rfl (XD h19) .here u2 <| wA (errV 104 y14.2) rfl rfl <| wE <| wR rfl <| wM (errV 104 y14.2) rfl rfl <| w_d rfl (Yp (e := y14.2) Tryz.underlying30 rfl) ?_
  refine Qb ?_
  rcases its he with ⟨c21, he⟩ | ⟨c21, he⟩
  ·
   refine QE rfl c21 <| wR rfl <| w_d rfl (XF (cs' := [.bool false, .slice none 0 0]) Tryz.underlying24 zr24 rfl (by kernel_rfl) (parts := []) rfl .nil) <| w_d rfl (XF (cs' := [.bool false, .slice none 0 0]) Tryz.underlying24 zr24 rfl (by kernel_rfl) (parts := []) rfl .nil) <| wM (errV 104 y14.2) rfl rfl <| wS (.agg ⟨[.bool false, .slice none 0 0]⟩) sz24 rfl rfl rfl rfl rfl (oc rfl (oc rfl oz)) .h2 u2 <| wS (.agg ⟨[.bool false, .slice none 0 0]⟩) sz24 rfl rfl rfl rfl rfl (oc rfl (oc rfl oz)) .h1 u2 <| wA (errV 104 y14.2) rfl rfl <| Qb ?_
   obtain rfl := sj he
   refine Qn fn_124 rs_124 (.box (v := .agg ⟨[.bool false, .slice none 0 0]⟩) rfl ty24 rfl rfl .h2 rfl (.box (v := .agg ⟨[.bool false, .slice none 0 0]⟩) rfl ty24 rfl rfl .h1 rfl (.tmp (v := errV 104 y14.2) rfl .nil))) <| ⟨⟨[_, _, _, _, _], rfl⟩, hle.trans (e9.trans e17), ⟨.slice none 0 0, .slice none 0 0, rfl, (Xg _ _), (Xg _ _)⟩⟩
  ·
   refine QF rfl (Bool.eq_false_iff.2 c21) <| QH <| Q0 <| wR rfl <| w_d rfl (Q9 (o' := 0) Tryz.underlying24 rfl sz4 rfl rfl rfl) <| wL (.bool a.f_neg) ty4 rfl rfl .h4 rfl rfl <| w_d rfl (Zp (b := a.f_neg) rfl) <| wM (.bool (!a.f_neg)) rfl rfl <| w_g (g := !(!a.f_neg)) rfl rfl rfl wn_f (fun g22 => QW (v := v12) rfl) <| w_g (g := !(!a.f_neg)) rfl rfl rfl wn_f (fun g23 => Xr Tryz.underlying22 (cvt g23) (h13.mono e17).src) <| w_g (g := !(!a.f_neg)) rfl rfl rfl wn_f (fun g24 => Zh (cvt g24) rfl) ?_
   refine w_d rfl (d_or' (b := (!a.f_neg)) (p := (decide ((y6.2.length : Int) = 0))) rfl rfl rfl) <| Qb ?_
   rcases its he with ⟨c25, he⟩ | ⟨c25, he⟩
   ·
    refine QE rfl c25 <| Q0 <| bK he fun y26 hy27 he => Xy (p := 5) (tl := [5, 6]) [[], [], [(1, some 51)], [(2, some 52)], [(0, some 50)]] [some 50, some 51, some 52, some 53, none] (fctF (.is (Qc y14.1 v18) :: .is (v12) :: .ro kU32 (y26) :: .of (fun H v => ∃ v32, v = .agg ⟨[.bool false, v32]⟩ ∧ Ro kU32 H v32 y26) (by rintro _ _ _ hle ⟨v32, rfl, h33⟩; exact ⟨v32, rfl, h33.mono hle⟩) :: .itm (fun H itq_ => itq_ = bx b3 (QM y14.1 v18) 24) (by rintro _ _ _ hle rfl; exact rfl) :: [])) (fun m_ => bx b20 (QM y14.1 v18) 24 :: bx b4 [.bool false, .slice none 0 0] 24 :: m_ 4 :: bx b2 (QM b v1_b) 24 :: bx b1 (QM a v0_a) 24 :: L) (fun i_ => if i_ = 4 then bx b3 [.bool false, .slice none 0 0] 24 else none) mixed (by kernel_rfl) (by kernel_rfl) rfl (Xn (by kernel_rfl)) ⟨(fun H' m_ hH hm_ hu_ => dn <| s_d (m_ 0) rfl (QG (v := (Qc y14.1 v18)) ty24 rfl .here rfl rfl rfl rfl) (by exact rfl) rfl), (fun H' m_ hH hm_ hu_ => dn <| s_d (m_ 1) rfl (QW (v := v12) rfl) (by exact rfl) rfl), (by rintro H' m_ hH hm_ hu_ _ rfl; exact dn <| s_k (m_ 2) rfl (Qm co119 (vs := [v12]) rfl (Q8.callsR k hy27 (h13.mono (e17.trans hH)))) rfl (by rintro v_ H_ _ ⟨rfl, e_, h_⟩; exact ⟨rfl, e_, h_⟩)), (by rintro H' m_ hH hm_ hu_ v30 (h31 : Ro kU32 H' v30 y26); exact dn <| s_d (m_ 3) rfl (XF (cs' := [.bool false, v30]) Tryz.underlying24 zr24 rfl (by kernel_rfl) (parts := [(0, .bool false), (1, v30)]) rfl (.cons (YF rfl sz4 rfl) rfl rfl u1 (.cons (YF rfl sz22 rfl) h31.cells rfl (.there u1) .nil))) (by exact ⟨v30, rfl, h31⟩) rfl), (by rintro H' m_ hH hm_ hu_ _ rfl; exact dn <| Zu (bx b3 (QM y14.1 v18) 24) hm_ rfl (YJ (v := (Qc y14.1 v18)) sz24 rfl rfl rfl rfl (oc rfl (oc (h19.one) oz)) .h2 u2) rfl (by exact ⟨rfl, rfl⟩)), trivial⟩ ?_
    intro H34 e35
    rintro _ _ rfl _ _ rfl v30 _ (h31 : Ro kU32 H34 v30 y26) _ _ ⟨v32, rfl, h33⟩ _ _ ⟨rfl, rfl⟩
    refine w_it (L' := bx b20 (QM y14.1 v18) 24 :: bx b4 [.bool false, .slice none 0 0] 24 :: bx b3 (QM y14.1 v18) 24 :: bx b2 (QM b v1_b) 24 :: bx b1 (QM a v0_a) 24 :: L) rfl <| wS (.agg ⟨[.bool false, v32]⟩) sz24 rfl rfl rfl rfl rfl (oc rfl (oc (h33.one) oz)) .h1 u2 <| wA (errV 104 none) rfl rfl <| Qb ?_
    obtain rfl := sj he
    refine Qn fn_124 rs_124 (.box (v := (Qc y14.1 v18)) rfl ty24 rfl rfl .h2 rfl (.box (v := .agg ⟨[.bool false, v32]⟩) rfl ty24 rfl rfl .h1 rfl (.tmp (v := errV 104 none) rfl .nil))) <| ⟨⟨[_, _, _, _, _], rfl⟩, hle.trans ((e9.trans e17).trans e35), ⟨v18, v32, rfl, (h19.mono e35), h33⟩⟩
   ·
    refine QF rfl (Bool.eq_false_iff.2 c25) <| QH <| wR rfl <| bK he fun y36 hy37 he => w_a rfl (Qm co71 (vs := [.int .i64 1]) rfl (XH.calls k hy37)) ?_
    rintro _ H38 _ ⟨rfl, e39, v40, rfl, h41⟩
    refine wN zr24 rfl rfl fun b42 => wS (Qc y36 v40) sz24 rfl rfl rfl rfl rfl (XD h41) .here u2 <| wE <| wR rfl <| w_d rfl (Q9 (o' := 0) Tryz.underlying24 rfl sz4 rfl rfl rfl) <| wL (.bool b.f_neg) ty4 rfl rfl .h4 rfl rfl <| w_d rfl (Zp (b := b.f_neg) rfl) <| Qb ?_
    rcases its he with ⟨c43, he⟩ | ⟨c43, he⟩
    ·
     refine QE rfl c43 <| QU rfl <| wL (Qc y36 v40) ty24 rfl rfl .here rfl rfl <| bK he fun y44 hy45 he => w_a rfl (Qm co121 (vs := [(Qc y36 v40)]) rfl (Xv.calls k (a := y36) hy45 h41)) ?_
     rintro _ H46 _ ⟨rfl, e47, v48, rfl, h49⟩
     refine wS (Qc y44 v48) sz24 rfl rfl rfl rfl rfl (XD h49) .here u2 <| Qb <| YB .h5 <| w_sl 3 (pt b2) rfl <| w_sl 4 (pt b3) rfl <| w_sl 5 (pt b4) rfl <| w_sl 6 (errV 104 none) rfl <| w_sl 8 (v12) rfl <| w_sl 9 (pt b20) rfl <| w_sl 11 (pt b42) rfl <| Xk.j1_ok (k := k) (hle.trans (((e9.trans e17).trans e39).trans e47)) he (h1_b.mono (((e9.trans e17).trans e39).trans e47)) (h13.mono ((e17.trans e39).trans e47)) (h19.mono (e39.trans e47)) h49
    ·
     refine QF rfl (Bool.eq_false_iff.2 c43) <| QH <| YB .h5 <| w_sl 3 (pt b2) rfl <| w_sl 4 (pt b3) rfl <| w_sl 5 (pt b4) rfl <| w_sl 6 (errV 104 none) rfl <| w_sl 8 (v12) rfl <| w_sl 9 (pt b20) rfl <| w_sl 11 (pt b42) rfl <| Xk.j1_ok (k := k) (hle.trans ((e9.trans e17).trans e39)) he (h1_b.mono ((e9.trans e17).trans e39)) (h13.mono (e17.trans e39)) (h19.mono e39) h41
noncomputable def QP.C : Code := (Tryz.f122.body).getD .skip
def QP.out (r : Qs × (Option Int)) (H : Hp) (v : Value) : Prop := ∃ v0, v = .tuple ⟨[(Qc r.1 v0), errV 104 r.2]⟩ ∧ Ro kU32 H v0 r.1.f_w
theorem QP.out_mono (r : Qs × (Option Int)) {H H' : Hp} {v : Value} (hle : H.le H') (h : QP.out r H v) : QP.out r H' v := by
 obtain ⟨v0, rfl, h0⟩ := h; exact ⟨v0, rfl, h0.mono hle⟩
abbrev QP.R (H0 : Hp) (L : Items) (r : Qs × (Option Int)) := fR H0 L (QP.out r)
structure QP.Hs where
 l0 : Bool → (List Int) → Bool → (List Int) → Bool → (List Int) → (Option Int) → Option (Qs × (Option Int))
noncomputable def QP.b0 (k : Nat) (h : QP.Hs) (a_0 : Bool) (a_1 : List Int) (b_0 : Bool) (b_1 : List Int) (t4_0 : Bool) (t4_1 : List Int) (t5 : Option Int) : Option (Qs × (Option Int)) := (Xo.f k ⟨b_0, b_1⟩).bind fun y4 => if y4 = 0 then (some (⟨a_0, a_1⟩, none)) else ((Xk.f k ⟨a_0, a_1⟩ ⟨b_0, b_1⟩).bind fun y9 => if y9.2.2.isSome = true then (some (⟨false, []⟩, y9.2.2)) else (h.l0 b_0 b_1 y9.2.1.f_neg y9.2.1.f_w t4_0 t4_1 t5))
noncomputable def QP.hs : Nat → QP.Hs
 | 0 => ⟨fun _ _ _ _ _ _ _ => none⟩
 | k + 1 => ⟨fun x0 x1 x2 x3 x4 x5 x6 => QP.b0 k (QP.hs k) x0 x1 x2 x3 x4 x5 x6⟩
noncomputable def QP.f (k : Nat) (a b : Qs) : Option (Qs × (Option Int)) := (fun h : QP.Hs => h.l0 a.f_neg a.f_w b.f_neg b.f_w false [] none) (QP.hs k)
structure QP.LE (h h' : QP.Hs) : Prop where
 l0 : ∀ y0 y1 y2 y3 y4 y5 y6, LeO (h.l0 y0 y1 y2 y3 y4 y5 y6) (h'.l0 y0 y1 y2 y3 y4 y5 y6)
theorem QP.b0_mono {k : Nat} {h h' : QP.Hs} (hl : QP.LE h h') : ∀ y0 y1 y2 y3 y4 y5 y6, LeO (QP.b0 k h y0 y1 y2 y3 y4 y5 y6) (QP.b0 (k + 1) h' y0 y1 y2 y3 y4 y5 y6) := fun _ _ _ _ _ _ _ => (LeO.bind (Xo.mono k _) fun _ => LeO.ite (LeO.refl _) (LeO.bind (Xk.mono k _ _) fun _ => LeO.ite (LeO.refl _) (hl.l0 _ _ _ _ _ _ _)))
theorem QP.hs_mono : ∀ k, QP.LE (QP.hs k) (QP.hs (k + 1))
 | 0 => ⟨fun _ _ _ _ _ _ _ => LeO.none _⟩
 | k + 1 => ⟨QP.b0_mono (k := k) (QP.hs_mono k)⟩
theorem QP.mono : ∀ k y0 y1, LeO (QP.f k y0 y1) (QP.f (k + 1) y0 y1) := fun k _ _ => have hl := QP.hs_mono k; by unfold QP.f; exact (hl.l0 _ _ _ _ _ _ _)
noncomputable def QP.Kl0 : List Item := .code (lopB (blkB (seqL (seqR QP.C)))) :: .inLoop (lopB (blkB (seqL (seqR QP.C)))) :: .inBlock 0 :: .code (seqR (seqR QP.C)) :: []
structure QP.OK (h : QP.Hs) : Prop where
 l0 : ∀ {H0 H : Hp} {L : Items} {r : Qs × (Option Int)} {jk_ : Nat → Value} {a_0 : Bool} {a_1 : List Int} {b_0 : Bool} {b_1 : List Int} {t4_0 : Bool} {t4_1 : List Int} {t5 : Option Int} {v_a_1 : Value} {v_b_1 : Value} {v_t4_1 : Value} {b_a : Nat} {b_b : Nat} {b_t4 : Nat} (_ : H0.le H) (_he : h.l0 a_0 a_1 b_0 b_1 t4_0 t4_1 t5 = some r) (_h_a_1 : Ro kU32 H v_a_1 a_1) (_h_b_1 : Ro kU32 H v_b_1 b_1) (_h_t4_1 : Ro kU32 H v_t4_1 t4_1), Wp Tryz.prog 122 26 QP.Kl0 (upd (upd (upd (upd jk_ 2 (pt b_a)) 3 (pt b_b)) 4 (pt b_t4)) 5 (errV 104 t5)) H (bx b_t4 [.bool t4_0, v_t4_1] 24 :: bx b_b [.bool b_0, v_b_1] 24 :: bx b_a [.bool a_0, v_a_1] 24 :: L) (QP.R H0 L r)
theorem QP.b0_ok {k : Nat} {h : QP.Hs} (hh : QP.OK h) {H0 H : Hp} {L : Items} {r : Qs × (Option Int)} {jk_ : Nat → Value} {a_0 : Bool} {a_1 : List Int} {b_0 : Bool} {b_1 : List Int} {t4_0 : Bool} {t4_1 : List Int} {t5 : Option Int} {v_a_1 v_b_1 v_t4_1 : Value} {b_a b_b b_t4 : Nat} (hle : H0.le H) (he : QP.b0 k h a_0 a_1 b_0 b_1 t4_0 t4_1 t5 = some r) (h_a_1 : Ro kU32 H v_a_1 a_1) (h_b_1 : Ro kU32 H v_b_1 b_1) (h_t4_1 : Ro kU32 H v_t4_1 t4_1) : Wp Tryz.prog 122 26 QP.Kl0 (upd (upd (upd (upd jk_ 2 (pt b_a)) 3 (pt b_b)) 4 (pt b_t4)) 5 (errV 104 t5)) H (bx b_t4 [.bool t4_0, v_t4_1] 24 :: bx b_b [.bool b_0, v_b_1] 24 :: bx b_a [.bool a_0, v_a_1] 24 :: L) (QP.R H0 L r) := by
 unfold QP.b0 at he
 unfold QP.Kl0
 refine Q0 <| wR rfl <| wL (.agg ⟨[.bool b_0, v_b_1]⟩) ty24 rfl rfl .h1 rfl rfl <| bK he fun y4 hy5 he => w_d rfl (Xx (Qm co84 (vs := [.agg ⟨[.bool b_0, v_b_1]⟩]) rfl (Xo.calls k (a := ⟨b_0, b_1⟩) hy5 h_b_1))) <| w_d rfl (Zs rfl rfl) <| Qb ?_
 rcases its he with ⟨c8, he⟩ | ⟨c8, he⟩
 ·
  refine QF rfl (nd_t c8) <| X8 rfl <| wR rfl <| wL (.agg ⟨[.bool a_0, v_a_1]⟩) ty24 rfl rfl .h2 rfl rfl <| wS (.agg ⟨[.bool a_0, v_a_1]⟩) sz24 rfl rfl rfl rfl rfl (oc rfl (oc (h_a_1.one) oz)) .here u2 <| wA (errV 104 none) rfl rfl <| Qb ?_
  obtain rfl := sj he
  refine Qn fn_122 rs_122 (.box (v := .agg ⟨[.bool a_0, v_a_1]⟩) rfl ty24 rfl rfl .here rfl (.tmp (v := errV 104 none) rfl .nil)) <| ⟨⟨[_, _, _], rfl⟩, hle, ⟨v_a_1, rfl, h_a_1⟩⟩
 ·
  refine QE rfl (nd_f c8) <| QH <| Xa <| wR rfl <| wL (.agg ⟨[.bool a_0, v_a_1]⟩) ty24 rfl rfl .h2 rfl rfl <| wL (.agg ⟨[.bool b_0, v_b_1]⟩) ty24 rfl rfl .h1 rfl rfl <| bK he fun y9 hy10 he => w_a rfl (Qm co124 (vs := [.agg ⟨[.bool a_0, v_a_1]⟩, .agg ⟨[.bool b_0, v_b_1]⟩]) rfl (Xk.calls k (a := ⟨a_0, a_1⟩) (b := ⟨b_0, b_1⟩) hy10 h_a_1 h_b_1)) ?_
  rintro _ H11 _ ⟨rfl, e12, v13, v15, rfl, h14, h16⟩
  refine wM (.tuple ⟨[(Qc y9.1 v13), (Qc y9.2.1 v15), errV 104 y9.2.2]⟩) rfl rfl <| w_d rfl (Q6 rfl rfl) <| w_d rfl (Q6 rfl rfl) <| w_d rfl (Q6 rfl rfl) <| wN zr24 rfl rfl fun b17 => wN zr24 rfl rfl fun b18 => wS (Qc y9.1 v13) sz24 rfl rfl rfl rfl rfl (XD h14) .h1 u2 <| wS (Qc y9.2.1 v15) sz24 rfl rfl rfl rfl rfl (XD h16) .here u2 <| wA (errV 104 y9.2.2) rfl rfl <| wE <| Q0 ?_
  refine QU rfl <| wM (errV 104 y9.2.2) rfl rfl <| w_d rfl (Yp (e := y9.2.2) Tryz.underlying30 rfl) <| Qb ?_
  rcases its he with ⟨c19, he⟩ | ⟨c19, he⟩
  ·
   refine QE rfl c19 <| wR rfl <| w_d rfl (XF (cs' := [.bool false, .slice none 0 0]) Tryz.underlying24 zr24 rfl (by kernel_rfl) (parts := []) rfl .nil) <| wM (errV 104 y9.2.2) rfl rfl <| wS (.agg ⟨[.bool false, .slice none 0 0]⟩) sz24 rfl rfl rfl rfl rfl (oc rfl (oc rfl oz)) .h2 u2 <| wA (errV 104 y9.2.2) rfl rfl <| Qb ?_
   obtain rfl := sj he
   refine Qn fn_122 rs_122 (.box (v := .agg ⟨[.bool false, .slice none 0 0]⟩) rfl ty24 rfl rfl .h2 rfl (.tmp (v := errV 104 y9.2.2) rfl .nil)) <| ⟨⟨[_, _, _, _, _], rfl⟩, hle.trans e12, ⟨.slice none 0 0, rfl, (Xg _ _)⟩⟩
  ·
   refine QF rfl (Bool.eq_false_iff.2 c19) <| QH <| Xy (p := 3) (tl := [3]) [[], [], [(0, some 23)]] [some 23, some 24, none] (fctF (.is (.agg ⟨[.bool b_0, v_b_1]⟩) :: .is (Qc y9.2.1 v15) :: .itm (fun H itq_ => itq_ = bx b_a [.bool b_0, v_b_1] 24) (by rintro _ _ _ hle rfl; exact rfl) :: [])) (fun m_ => bx b18 (QM y9.2.1 v15) 24 :: bx b17 (QM y9.1 v13) 24 :: bx b_t4 [.bool t4_0, v_t4_1] 24 :: bx b_b [.bool b_0, v_b_1] 24 :: m_ 2 :: L) (fun i_ => if i_ = 2 then bx b_a [.bool a_0, v_a_1] 24 else none) mixed (by kernel_rfl) (by kernel_rfl) rfl (Xn (by kernel_rfl)) ⟨(fun H' m_ hH hm_ hu_ => dn <| s_d (m_ 0) rfl (QG (v := .agg ⟨[.bool b_0, v_b_1]⟩) ty24 rfl .h3 rfl rfl rfl rfl) (by exact rfl) rfl), (fun H' m_ hH hm_ hu_ => dn <| s_d (m_ 1) rfl (QG (v := (Qc y9.2.1 v15)) ty24 rfl .here rfl rfl rfl rfl) (by exact rfl) rfl), (by rintro H' m_ hH hm_ hu_ _ rfl; exact dn <| Zu (bx b_a [.bool b_0, v_b_1] 24) hm_ rfl (YJ (v := .agg ⟨[.bool b_0, v_b_1]⟩) sz24 rfl rfl rfl rfl (oc rfl (oc (h_b_1.one) oz)) .h4 u2) rfl (by exact ⟨rfl, rfl⟩)), trivial⟩ ?_
   intro H20 e21
   rintro _ _ rfl _ _ rfl _ _ ⟨rfl, rfl⟩
   refine w_it (L' := bx b18 (QM y9.2.1 v15) 24 :: bx b17 (QM y9.1 v13) 24 :: bx b_t4 [.bool t4_0, v_t4_1] 24 :: bx b_b [.bool b_0, v_b_1] 24 :: bx b_a [.bool b_0, v_b_1] 24 :: L) rfl <| wS (Qc y9.2.1 v15) sz24 rfl rfl rfl rfl rfl (XD h16) .h3 u2 <| Qb <| XC <| XL <| YB .h1 <| YB .here <| w_sl 2 (pt b_a) rfl <| w_sl 3 (pt b_b) rfl <| w_sl 4 (pt b_t4) rfl <| w_sl 5 (errV 104 t5) rfl <| hh.l0 (hle.trans (e12.trans e21)) he (h_b_1.mono (e12.trans e21)) (h16.mono e21) (h_t4_1.mono (e12.trans e21))
theorem QP.ok : ∀ k, QP.OK (QP.hs k)
 | 0 => ⟨(by intros; exact nomatch (show none = some _ from by assumption))⟩
 | k + 1 => ⟨QP.b0_ok (k := k) (QP.ok k)⟩
theorem QP.calls (k : Nat) {H : Hp} {L : Items} {a b : Qs} {v0_a v1_b : Value} {r : Qs × (Option Int)} (he : QP.f k a b = some r) (h0_a : Ro kU32 H v0_a a.f_w) (h1_b : Ro kU32 H v1_b b.f_w) : Ct Tryz.prog 122 ⟨[(Qc a v0_a), (Qc b v1_b)]⟩ H L (cR H L (QP.out r)) := by
 refine XO (O := QP.out r) ?_
 have hle : H.le H := .refl _
 have hh := QP.ok k
 unfold QP.f at he
 refine QV (args := [_, _]) fn_122 rfl nt_122 rfl <| wR rfl <| wB (Qc a v0_a) rfl rfl rfl <| fun b1 => wB (Qc b v1_b) rfl rfl rfl <| fun b2 => wN zr24 rfl rfl fun b3 => wA (errV 104 none) rfl rfl <| wE <| Xa <| X9 <| w_sl 2 (pt b1) rfl ?_
 refine w_sl 3 (pt b2) rfl <| w_sl 4 (pt b3) rfl <| w_sl 5 (errV 104 none) rfl <| hh.l0 hle he h0_a h1_b (Xg _ _)
noncomputable def Xz.C : Code := (Tryz.f73.body).getD .skip
def Xz.out (r : Qg × (Option Int)) (H : Hp) (v : Value) : Prop := ∃ v0 v1, v = .tuple ⟨[(Qd r.1 v0 v1), errV 104 r.2]⟩ ∧ Ro kU32 H v0 r.1.f_n.f_w ∧ Ro kU32 H v1 r.1.f_d.f_w
theorem Xz.out_mono (r : Qg × (Option Int)) {H H' : Hp} {v : Value} (hle : H.le H') (h : Xz.out r H v) : Xz.out r H' v := by
 obtain ⟨v0, v1, rfl, h0, h1⟩ := h; exact ⟨v0, v1, rfl, h0.mono hle, h1.mono hle⟩
abbrev Xz.R (H0 : Hp) (L : Items) (r : Qg × (Option Int)) := fR H0 L (Xz.out r)
noncomputable def Xz.j1 (k : Nat) (n_0 : Bool) (n_1 : List Int) (d_0 : Bool) (d_1 : List Int) : Option (Qg × (Option Int)) := (Yv.f k ⟨n_0, n_1⟩).bind fun y28 => (QP.f k y28 ⟨d_0, d_1⟩).bind fun y34 => if y34.2.isSome = true then (some (⟨⟨false, []⟩, ⟨false, []⟩⟩, y34.2)) else ((Xk.f k ⟨n_0, n_1⟩ y34.1).bind fun y52 => if y52.2.2.isSome = true then (some (⟨⟨false, []⟩, ⟨false, []⟩⟩, y52.2.2)) else ((Xk.f k ⟨d_0, d_1⟩ y34.1).bind fun y63 => if y63.2.2.isSome = true then (some (⟨⟨false, []⟩, ⟨false, []⟩⟩, y63.2.2)) else (some (⟨y52.1, y63.1⟩, none))))
noncomputable def Xz.f (k : Nat) (n d : Qs) : Option (Qg × (Option Int)) := (Xo.f k d).bind fun y4 => if y4 = 0 then (some (⟨⟨false, []⟩, ⟨false, []⟩⟩, some 11)) else ((Xo.f k d).bind fun y9 => if y9 < 0 then ((Xv.f k n).bind fun y14 => (Xv.f k d).bind fun y22 => Xz.j1 k y14.f_neg y14.f_w y22.f_neg y22.f_w) else (Xz.j1 k n.f_neg n.f_w d.f_neg d.f_w))
theorem Xz.j1_mono {k : Nat} : ∀ y0 y1 y2 y3, LeO (Xz.j1 k y0 y1 y2 y3) (Xz.j1 (k + 1) y0 y1 y2 y3) := fun _ _ _ _ => (LeO.bind (Yv.mono k _) fun _ => LeO.bind (QP.mono k _ _) fun _ => LeO.ite (LeO.refl _) (LeO.bind (Xk.mono k _ _) fun _ => LeO.ite (LeO.refl _) (LeO.bind (Xk.mono k _ _) fun _ => LeO.ite (LeO.refl _) (LeO.refl _))))
theorem Xz.mono : ∀ k y0 y1, LeO (Xz.f k y0 y1) (Xz.f (k + 1) y0 y1) := fun k _ _ => by unfold Xz.f; exact (LeO.bind (Xo.mono k _) fun _ => LeO.ite (LeO.refl _) (LeO.bind (Xo.mono k _) fun _ => LeO.ite (LeO.bind (Xv.mono k _) fun _ => LeO.bind (Xv.mono k _) fun _ => Xz.j1_mono (k := k)  _ _ _ _) (Xz.j1_mono (k := k)  _ _ _ _)))
noncomputable def Xz.Kj1 : List Item := .code (seqR (seqR (seqR Xz.C))) :: []
theorem Xz.j1_ok {k : Nat} {H0 H : Hp} {L : Items} {r : Qg × (Option Int)} {jk_ : Nat → Value} {n_0 : Bool} {n_1 : List Int} {d_0 : Bool} {d_1 : List Int} {v_n_1 v_d_1 : Value} {b_n b_d b_t4 : Nat} (hle : H0.le H) (he : Xz.j1 k n_0 n_1 d_0 d_1 = some r) (h_n_1 : Ro kU32 H v_n_1 n_1) (h_d_1 : Ro kU32 H v_d_1 d_1) : Wp Tryz.prog 73 60 Xz.Kj1 (upd (upd (upd (upd jk_ 2 (pt b_n)) 3 (pt b_d)) 4 (pt b_t4)) 5 (errV 104 none)) H (bx b_t4 z0c 26 :: bx b_d [.bool d_0, v_d_1] 24 :: bx b_n [.bool n_0, v_n_1] 24 :: L) (Xz.R H0 L r) := by
 unfold Xz.j1 at he
 unfold Xz.Kj1
 refine Q0 <| bK he fun y28 hy29 he => bK he fun y34 hy35 he => ?_
 refine Yx (?_)
 refine Xy (p := 9) (tl := [9]) [[], [(0, some 25)], [], [(1, some 26), (2, some 27)], [(3, some 28)], [(4, some 24)], [(4, some 24)], [], [(5, some 29), (7, some 6)]] [some 25, some 26, some 27, some 28, some 24, some 29, some 30, some 6, none] (fctF (.is (.agg ⟨[.bool n_0, v_n_1]⟩) :: .of (Yv.out y28) (Yv.out_mono _) :: .is (.agg ⟨[.bool d_0, v_d_1]⟩) :: .of (QP.out y34) (QP.out_mono _) :: .of (fun H v => ∃ v40, v = .tuple ⟨[(Qc y34.1 v40), errV 104 y34.2]⟩ ∧ Ro kU32 H v40 y34.1.f_w) (by rintro _ _ _ hle ⟨v40, rfl, h41⟩; exact ⟨v40, rfl, h41.mono hle⟩) :: .of (fun H v => ∃ v42, v = (Qc y34.1 v42) ∧ Ro kU32 H v42 y34.1.f_w) (by rintro _ _ _ hle ⟨v42, rfl, h43⟩; exact ⟨v42, rfl, h43.mono hle⟩) :: .is (errV 104 y34.2) :: .box 24 [.bool false, .slice none 0 0] :: .st 7 (fun H bq_ itq_ => ∃ v45, itq_ = bx bq_ (QM y34.1 v45) 24 ∧ Ro kU32 H v45 y34.1.f_w) (by rintro _ _ _ _ hle ⟨v45, rfl, h46⟩; exact ⟨v45, rfl, h46.mono hle⟩) :: [])) (fun m_ => pk (m_ 8) (m_ 7) :: bx b_t4 z0c 26 :: bx b_d [.bool d_0, v_d_1] 24 :: bx b_n [.bool n_0, v_n_1] 24 :: L) (fun _ => none) mixed (by kernel_rfl) (by kernel_rfl) rfl (Xn (by kernel_rfl)) ⟨(fun H' m_ hH hm_ hu_ => dn <| s_d (m_ 0) rfl (QG (v := .agg ⟨[.bool n_0, v_n_1]⟩) ty24 rfl .h3 rfl rfl rfl rfl) (by exact rfl) rfl), (by rintro H' m_ hH hm_ hu_ _ rfl; exact dn <| s_k (m_ 1) rfl (Qm co123 (vs := [.agg ⟨[.bool n_0, v_n_1]⟩]) rfl (Yv.calls k (a := ⟨n_0, n_1⟩) hy29 (h_n_1.mono hH))) rfl (by rintro v_ H_ _ ⟨rfl, e_, h_⟩; exact ⟨rfl, e_, h_⟩)), (fun H' m_ hH hm_ hu_ => dn <| s_d (m_ 2) rfl (QG (v := .agg ⟨[.bool d_0, v_d_1]⟩) ty24 rfl .h2 rfl rfl rfl rfl) (by exact rfl) rfl), (by rintro H' m_ hH hm_ hu_ _ ⟨v32, rfl, h33⟩ _ rfl; exact dn <| s_k (m_ 3) rfl (Qm co122 (vs := [(Qc y28 v32), .agg ⟨[.bool d_0, v_d_1]⟩]) rfl (QP.calls k (a := y28) (b := ⟨d_0, d_1⟩) hy35 h33 (h_d_1.mono hH))) rfl (by rintro v_ H_ _ ⟨rfl, e_, h_⟩; exact ⟨rfl, e_, h_⟩)), (by rintro H' m_ hH hm_ hu_ _ ⟨v38, rfl, h39⟩; exact dn <| s_d (m_ 4) rfl (QW (v := .tuple ⟨[(Qc y34.1 v38), errV 104 y34.2]⟩) rfl) (by exact ⟨v38, rfl, h39⟩) rfl), (by rintro H' m_ hH hm_ hu_ _ ⟨v40, rfl, h41⟩; exact dn <| s_d (m_ 5) rfl (Q6 rfl rfl) (by exact ⟨v40, rfl, h41⟩) rfl), (by rintro H' m_ hH hm_ hu_ _ ⟨v40, rfl, h41⟩; exact dn <| s_d (m_ 6) rfl (Q6 rfl rfl) (by exact rfl) rfl), (fun H' m_ hH hm_ hu_ => dn <| YV hm_ rfl rfl (YI zr24 rfl) rfl (fun _ => (ZB (hu_ 8 (by kernel_rfl)))) (by exact fun b_ => ⟨b_, rfl, rfl⟩)), (by rintro H' m_ hH hm_ hu_ _ ⟨v42, rfl, h43⟩ _ ⟨b44, rfl, hb44_⟩; exact dn <| Y3 (Λ' := fun z_ => z_ :: bx b_t4 z0c 26 :: bx b_d [.bool d_0, v_d_1] 24 :: bx b_n [.bool n_0, v_n_1] 24 :: L) (bx b44 (QM y34.1 v42) 24) hm_ rfl hb44_ rfl (YJ (v := (Qc y34.1 v42)) sz24 rfl rfl rfl rfl (oc rfl (oc (h43.one) oz)) .here u2) rfl rfl (by exact ⟨rfl, v42, congrArg (fun b_ => (some (b_, Obj.cells ⟨(QM y34.1 v42)⟩ 24 (0, 0)) : Item')) (ZD hb44_).symm, h43⟩)), trivial⟩ ?_
 intro H49 e50
 rintro _ _ rfl _ _ ⟨v32, rfl, h33⟩ _ _ rfl _ _ ⟨v38, rfl, h39⟩ _ _ ⟨v40, rfl, h41⟩ _ _ ⟨v42, rfl, h43⟩ _ _ rfl _ _ ⟨b44, rfl, rfl⟩ _ i47 ⟨rfl, v45, h48, h46⟩
 replace h48 : i47 = bx b44 (QM y34.1 v45) 24 := h48
 subst h48
 refine w_it (L' := bx b44 (QM y34.1 v45) 24 :: bx b_t4 z0c 26 :: bx b_d [.bool d_0, v_d_1] 24 :: bx b_n [.bool n_0, v_n_1] 24 :: L) rfl <| wA (errV 104 y34.2) rfl rfl <| wE <| wR rfl <| wM (errV 104 y34.2) rfl rfl <| w_d rfl (Yp (e := y34.2) Tryz.underlying30 rfl) <| Qb ?_
 rcases its he with ⟨c51, he⟩ | ⟨c51, he⟩
 ·
  refine QE rfl c51 <| wR rfl <| w_d rfl (XF (cs' := z0c) Tryz.underlying26 zr26 rfl (by kernel_rfl) (parts := []) rfl .nil) <| wM (errV 104 y34.2) rfl rfl <| wS (.agg ⟨z0c⟩) sz26 rfl rfl rfl rfl rfl (oc rfl (oc rfl (oc rfl (oc rfl oz)))) .h1 u4 <| wA (errV 104 y34.2) rfl rfl <| Qb ?_
  obtain rfl := sj he
  refine Qn fn_73 rs_73 (.box (v := .agg ⟨z0c⟩) rfl ty26 rfl rfl .h1 rfl (.tmp (v := errV 104 y34.2) rfl .nil)) <| ⟨⟨[_, _, _, _], rfl⟩, hle.trans e50, ⟨.slice none 0 0, .slice none 0 0, rfl, (Xg _ _), (Xg _ _)⟩⟩
 ·
  refine QF rfl (Bool.eq_false_iff.2 c51) <| QH <| wR rfl <| wL (.agg ⟨[.bool n_0, v_n_1]⟩) ty24 rfl rfl .h3 rfl rfl <| wL (Qc y34.1 v45) ty24 rfl rfl .here rfl rfl <| bK he fun y52 hy53 he => w_a rfl (Qm co124 (vs := [.agg ⟨[.bool n_0, v_n_1]⟩, (Qc y34.1 v45)]) rfl (Xk.calls k (a := ⟨n_0, n_1⟩) (b := y34.1) hy53 (h_n_1.mono e50) h46)) ?_
  rintro _ H54 _ ⟨rfl, e55, v56, v58, rfl, h57, h59⟩
  refine wM (.tuple ⟨[(Qc y52.1 v56), (Qc y52.2.1 v58), errV 104 y52.2.2]⟩) rfl rfl <| w_d rfl (Q6 rfl rfl) <| w_d rfl (Q6 rfl rfl) <| w_d rfl (Q6 rfl rfl) <| wN zr24 rfl rfl fun b60 => wN zr24 rfl rfl fun b61 => wS (Qc y52.1 v56) sz24 rfl rfl rfl rfl rfl (XD h57) .h1 u2 <| wS (Qc y52.2.1 v58) sz24 rfl rfl rfl rfl rfl (XD h59) .here u2 <| wA (errV 104 y52.2.2) rfl rfl <| wE <| Q0 ?_
  refine QU rfl <| wM (errV 104 y52.2.2) rfl rfl <| w_d rfl (Yp (e := y52.2.2) Tryz.underlying30 rfl) <| Qb ?_
  rcases its he with ⟨c62, he⟩ | ⟨c62, he⟩
  ·
   refine QE rfl c62 <| wR rfl <| w_d rfl (XF (cs' := z0c) Tryz.underlying26 zr26 rfl (by kernel_rfl) (parts := []) rfl .nil) <| wM (errV 104 y52.2.2) rfl rfl <| wS (.agg ⟨z0c⟩) sz26 rfl rfl rfl rfl rfl (oc rfl (oc rfl (oc rfl (oc rfl oz)))) .h3 u4 <| wA (errV 104 y52.2.2) rfl rfl <| Qb ?_
   obtain rfl := sj he
   refine Qn fn_73 rs_73 (.box (v := .agg ⟨z0c⟩) rfl ty26 rfl rfl .h3 rfl (.tmp (v := errV 104 y52.2.2) rfl .nil)) <| ⟨⟨[_, _, _, _, _, _], rfl⟩, hle.trans (e50.trans e55), ⟨.slice none 0 0, .slice none 0 0, rfl, (Xg _ _), (Xg _ _)⟩⟩
  ·
   refine QF rfl (Bool.eq_false_iff.2 c62) <| QH <| wR rfl <| wL (.agg ⟨[.bool d_0, v_d_1]⟩) ty24 rfl rfl .h4 rfl rfl <| wL (Qc y34.1 v45) ty24 rfl rfl .h2 rfl rfl <| bK he fun y63 hy64 he => w_a rfl (Qm co124 (vs := [.agg ⟨[.bool d_0, v_d_1]⟩, (Qc y34.1 v45)]) rfl (Xk.calls k (a := ⟨d_0, d_1⟩) (b := y34.1) hy64 (h_d_1.mono (e50.trans e55)) (h46.mono e55))) ?_
   rintro _ H65 _ ⟨rfl, e66, v67, v69, rfl, h68, h70⟩
   refine wM (.tuple ⟨[(Qc y63.1 v67), (Qc y63.2.1 v69), errV 104 y63.2.2]⟩) rfl rfl <| w_d rfl (Q6 rfl rfl) <| w_d rfl (Q6 rfl rfl) <| w_d rfl (Q6 rfl rfl) <| wN zr24 rfl rfl fun b71 => wN zr24 rfl rfl fun b72 => wS (Qc y63.1 v67) sz24 rfl rfl rfl rfl rfl (XD h68) .h1 u2 <| wS (Qc y63.2.1 v69) sz24 rfl rfl rfl rfl rfl (XD h70) .here u2 <| wA (errV 104 y63.2.2) rfl rfl <| wE <| Q0 ?_
   refine QU rfl <| wM (errV 104 y63.2.2) rfl rfl <| w_d rfl (Yp (e := y63.2.2) Tryz.underlying30 rfl) <| Qb ?_
   rcases its he with ⟨c73, he⟩ | ⟨c73, he⟩
   ·
    refine QE rfl c73 <| wR rfl <| w_d rfl (XF (cs' := z0c) Tryz.underlying26 zr26 rfl (by kernel_rfl) (parts := []) rfl .nil) <| wM (errV 104 y63.2.2) rfl rfl <| wS (.agg ⟨z0c⟩) sz26 rfl rfl rfl rfl rfl (oc rfl (oc rfl (oc rfl (oc rfl oz)))) .h5 u4 <| wA (errV 104 y63.2.2) rfl rfl <| Qb ?_
    obtain rfl := sj he
    refine Qn fn_73 rs_73 (.box (v := .agg ⟨z0c⟩) rfl ty26 rfl rfl .h5 rfl (.tmp (v := errV 104 y63.2.2) rfl .nil)) <| ⟨⟨[_, _, _, _, _, _, _, _], rfl⟩, hle.trans ((e50.trans e55).trans e66), ⟨.slice none 0 0, .slice none 0 0, rfl, (Xg _ _), (Xg _ _)⟩⟩
   ·
    refine QF rfl (Bool.eq_false_iff.2 c73) <| QH <| wR rfl <| wL (Qc y52.1 v56) ty24 rfl rfl .h3 rfl rfl <| wL (Qc y63.1 v67) ty24 rfl rfl .h1 rfl rfl <| w_d rfl (XF (cs' := [.bool y52.1.f_neg, v56, .bool y63.1.f_neg, v67]) Tryz.underlying26 zr26 rfl (by kernel_rfl) (parts := [(0, (Qc y52.1 v56)), (1, (Qc y63.1 v67))]) rfl (.cons (YF rfl sz24 rfl) rfl rfl u2 (.cons (YF rfl sz24 rfl) rfl rfl (.there (.there u2)) .nil))) <| wS (.agg ⟨[.bool y52.1.f_neg, v56, .bool y63.1.f_neg, v67]⟩) sz26 rfl rfl rfl rfl rfl (oc rfl (oc (h57.one) (oc rfl (oc (h68.one) oz)))) .h5 u4 <| wA (errV 104 none) rfl rfl <| Qb ?_
    obtain rfl := sj he
    refine Qn fn_73 rs_73 (.box (v := .agg ⟨[.bool y52.1.f_neg, v56, .bool y63.1.f_neg, v67]⟩) rfl ty26 rfl rfl .h5 rfl (.tmp (v := errV 104 none) rfl .nil)) <| ⟨⟨[_, _, _, _, _, _, _, _], rfl⟩, hle.trans ((e50.trans e55).trans e66), ⟨v56, v67, rfl, (h57.mono e66), h68⟩⟩
theorem Xz.calls (k : Nat) {H : Hp} {L : Items} {n d : Qs} {v0_n v1_d : Value} {r : Qg × (Option Int)} (he : Xz.f k n d = some r) (h0_n : Ro kU32 H v0_n n.f_w) (h1_d : Ro kU32 H v1_d d.f_w) : Ct Tryz.prog 73 ⟨[(Qc n v0_n), (Qc d v1_d)]⟩ H L (cR H L (Xz.out r)) := by
 refine XO (O := Xz.out r) ?_
 have hle : H.le H := .refl _
 unfold Xz.f at he
 refine QV (args := [_, _]) fn_73 rfl nt_73 rfl <| wR rfl <| wB (Qc n v0_n) rfl rfl rfl <| fun b1 => wB (Qc d v1_d) rfl rfl rfl <| fun b2 => wN zr26 rfl rfl fun b3 => wA (errV 104 none) rfl rfl <| wE <| wR rfl <| wL (Qc d v1_d) ty24 rfl rfl .h1 rfl rfl ?_
 refine bK he fun y4 hy5 he => w_d rfl (Xx (Qm co84 (vs := [(Qc d v1_d)]) rfl (Xo.calls k (a := d) hy5 h1_d))) <| w_d rfl (Zh rfl rfl) <| Qb ?_
 rcases its he with ⟨c8, he⟩ | ⟨c8, he⟩
 ·
  refine QE rfl (dt c8) <| wR rfl <| w_d rfl (XF (cs' := z0c) Tryz.underlying26 zr26 rfl (by kernel_rfl) (parts := []) rfl .nil) <| w_d rfl (Zk (v := .int .i64 11) Tryz.underlying104 rfl rfl) <| wS (.agg ⟨z0c⟩) sz26 rfl rfl rfl rfl rfl (oc rfl (oc rfl (oc rfl (oc rfl oz)))) .here u4 <| wA (errV 104 (some 11)) rfl rfl <| Qb ?_
  obtain rfl := sj he
  refine Qn fn_73 rs_73 (.box (v := .agg ⟨z0c⟩) rfl ty26 rfl rfl .here rfl (.tmp (v := errV 104 (some 11)) rfl .nil)) <| ⟨⟨[_, _, _], rfl⟩, hle, ⟨.slice none 0 0, .slice none 0 0, rfl, (Xg _ _), (Xg _ _)⟩⟩
 ·
  refine QF rfl (df c8) <| QH <| Q0 <| wR rfl <| wL (Qc d v1_d) ty24 rfl rfl .h1 rfl rfl <| bK he fun y9 hy10 he => w_d rfl (Xx (Qm co84 (vs := [(Qc d v1_d)]) rfl (Xo.calls k (a := d) hy10 h1_d))) <| w_d rfl (XY rfl rfl) <| Qb ?_
  rcases its he with ⟨c13, he⟩ | ⟨c13, he⟩
  ·
   refine QE rfl (dt c13) <| bK he fun y14 hy15 he => Xy (p := 3) (tl := [3, 4, 5]) [[], [(0, some 20)], []] [some 20, some 21, some 22] (fctF (.is (Qc n v0_n) :: .of (Xv.out y14) (Xv.out_mono _) :: .is (Qc d v1_d) :: [])) (fun m_ => bx b3 z0c 26 :: bx b2 (QM d v1_d) 24 :: bx b1 (QM n v0_n) 24 :: L) (fun _ => none) mixed (by kernel_rfl) (by kernel_rfl) rfl (Xn (by kernel_rfl)) ⟨(fun H' m_ hH hm_ hu_ => dn <| s_d (m_ 0) rfl (QG (v := (Qc n v0_n)) ty24 rfl .h2 rfl rfl rfl rfl) (by exact rfl) rfl), (by rintro H' m_ hH hm_ hu_ _ rfl; exact dn <| s_k (m_ 1) rfl (Qm co121 (vs := [(Qc n v0_n)]) rfl (Xv.calls k (a := n) hy15 (h0_n.mono hH))) rfl (by rintro v_ H_ _ ⟨rfl, e_, h_⟩; exact ⟨rfl, e_, h_⟩)), (fun H' m_ hH hm_ hu_ => dn <| s_d (m_ 2) rfl (QG (v := (Qc d v1_d)) ty24 rfl .h1 rfl rfl rfl rfl) (by exact rfl) rfl), trivial⟩ ?_
   intro H20 e21
   rintro _ _ rfl _ _ ⟨v18, rfl, h19⟩ _ _ rfl
   refine bK he fun y22 hy23 he => w_a rfl (Qm co121 (vs := [(Qc d v1_d)]) rfl (Xv.calls k (a := d) hy23 (h1_d.mono e21))) ?_
   rintro _ H24 _ ⟨rfl, e25, v26, rfl, h27⟩
   refine wS (Qc y14 v18) sz24 rfl rfl rfl rfl rfl (XD h19) .h2 u2 <| wS (Qc y22 v26) sz24 rfl rfl rfl rfl rfl (XD h27) .h1 u2 <| Qb <| w_sl 2 (pt b1) rfl <| w_sl 3 (pt b2) rfl <| w_sl 4 (pt b3) rfl <| w_sl 5 (errV 104 none) rfl <| Xz.j1_ok (k := k) (hle.trans (e21.trans e25)) he (h19.mono e25) h27
  ·
   refine QF rfl (df c13) <| QH <| w_sl 2 (pt b1) rfl <| w_sl 3 (pt b2) rfl <| w_sl 4 (pt b3) rfl <| w_sl 5 (errV 104 none) rfl <| Xz.j1_ok (k := k) hle he h0_n h1_d
noncomputable def Xq.C : Code := (Tryz.f42.body).getD .skip
def Xq.out (r : Qg) (H : Hp) (v : Value) : Prop := ∃ v0 v1, v = (Qd r v0 v1) ∧ Ro kU32 H v0 r.f_n.f_w ∧ Ro kU32 H v1 r.f_d.f_w
theorem Xq.out_mono (r : Qg) {H H' : Hp} {v : Value} (hle : H.le H') (h : Xq.out r H v) : Xq.out r H' v := by
 obtain ⟨v0, v1, rfl, h0, h1⟩ := h; exact ⟨v0, v1, rfl, h0.mono hle, h1.mono hle⟩
noncomputable def Xq.f (k : Nat) (a : Qi) : Option Qg := (XI.f k a.f_N).bind fun y3 => (XI.f k a.f_D).bind fun y9 => (Xz.f k y3 y9).bind fun y15 => some (y15.1)
theorem Xq.calls (k : Nat) {H : Hp} {L : Items} {a : Qi} {v0_a v1_a : Value} {r : Qg} (he : Xq.f k a = some r) (h0_a : Ro kI64 H v0_a a.f_N.f_D) (h1_a : Ro kI64 H v1_a a.f_D.f_D) : Ct Tryz.prog 42 ⟨[(Ql a v0_a v1_a)]⟩ H L (cR H L (Xq.out r)) := by
 refine XO (O := Xq.out r) ?_
 have hle : H.le H := .refl _
 unfold Xq.f at he
 refine QV (args := [_]) fn_42 rfl nt_42 rfl <| wR rfl <| wB (Ql a v0_a v1_a) rfl rfl rfl <| fun b1 => wN zr26 rfl rfl fun b2 => wE <| bK he fun y3 hy4 he => bK he fun y9 hy10 he => bK he fun y15 hy16 he => ?_
 refine Yx (?_)
 refine Xy (p := 12) (tl := [12]) [[], [(0, some 6)], [(1, some 7)], [], [(3, some 9)], [(4, some 10)], [(2, some 8), (5, some 11)], [(6, some 12)], [(7, some 5)], [(7, some 5)], [], [(8, some 13), (10, some 3)]] [some 6, some 7, some 8, some 9, some 10, some 11, some 12, some 5, some 13, some 14, some 3, none] (fctF (.is (pt b1) :: .is (Qa a.f_N v0_a) :: .of (XI.out y3) (XI.out_mono _) :: .is (po b1 2) :: .is (Qa a.f_D v1_a) :: .of (XI.out y9) (XI.out_mono _) :: .of (Xz.out y15) (Xz.out_mono _) :: .of (fun H v => ∃ v23 v25, v = .tuple ⟨[(Qd y15.1 v23 v25), errV 104 y15.2]⟩ ∧ Ro kU32 H v23 y15.1.f_n.f_w ∧ Ro kU32 H v25 y15.1.f_d.f_w) (by rintro _ _ _ hle ⟨v23, v25, rfl, h24, h26⟩; exact ⟨v23, v25, rfl, h24.mono hle, h26.mono hle⟩) :: .of (fun H v => ∃ v27 v29, v = (Qd y15.1 v27 v29) ∧ Ro kU32 H v27 y15.1.f_n.f_w ∧ Ro kU32 H v29 y15.1.f_d.f_w) (by rintro _ _ _ hle ⟨v27, v29, rfl, h28, h30⟩; exact ⟨v27, v29, rfl, h28.mono hle, h30.mono hle⟩) :: .is (errV 104 y15.2) :: .box 26 z0c :: .st 10 (fun H bq_ itq_ => ∃ v32 v34, itq_ = bx bq_ (QZ y15.1 v32 v34) 26 ∧ Ro kU32 H v32 y15.1.f_n.f_w ∧ Ro kU32 H v34 y15.1.f_d.f_w) (by rintro _ _ _ _ hle ⟨v32, v34, rfl, h33, h35⟩; exact ⟨v32, v34, rfl, h33.mono hle, h35.mono hle⟩) :: [])) (fun m_ => pk (m_ 11) (m_ 10) :: bx b2 z0c 26 :: bx b1 (XA a v0_a v1_a) 40 :: L) (fun _ => none) mixed (by kernel_rfl) (by kernel_rfl) rfl (Xn (by kernel_rfl)) ⟨(fun H' m_ hH hm_ hu_ => dn <| s_d (m_ 0) rfl (Q9 (o' := 0) Tryz.underlying40 rfl sz37 rfl rfl rfl) (by exact rfl) rfl), (by rintro H' m_ hH hm_ hu_ _ rfl; exact dn <| s_d (m_ 1) rfl (QG (v := (Qa a.f_N v0_a)) ty37 rfl .h2 rfl rfl rfl rfl) (by exact rfl) rfl), (by rintro H' m_ hH hm_ hu_ _ rfl; exact dn <| s_k (m_ 2) rfl (Qm co97 (vs := [(Qa a.f_N v0_a)]) rfl (XI.calls k (a := a.f_N) hy4 (h0_a.mono hH))) rfl (by rintro v_ H_ _ ⟨rfl, e_, h_⟩; exact ⟨rfl, e_, h_⟩)), (fun H' m_ hH hm_ hu_ => dn <| s_d (m_ 3) rfl (Q9 (o' := 2) Tryz.underlying40 rfl sz37 rfl rfl rfl) (by exact rfl) rfl), (by rintro H' m_ hH hm_ hu_ _ rfl; exact dn <| s_d (m_ 4) rfl (QG (v := (Qa a.f_D v1_a)) ty37 rfl .h2 rfl rfl rfl rfl) (by exact rfl) rfl), (by rintro H' m_ hH hm_ hu_ _ rfl; exact dn <| s_k (m_ 5) rfl (Qm co97 (vs := [(Qa a.f_D v1_a)]) rfl (XI.calls k (a := a.f_D) hy10 (h1_a.mono hH))) rfl (by rintro v_ H_ _ ⟨rfl, e_, h_⟩; exact ⟨rfl, e_, h_⟩)), (by rintro H' m_ hH hm_ hu_ _ ⟨v7, rfl, h8⟩ _ ⟨v13, rfl, h14⟩; exact dn <| s_k (m_ 6) rfl (Qm co73 (vs := [(Qc y3 v7), (Qc y9 v13)]) rfl (Xz.calls k (n := y3) (d := y9) hy16 h8 h14)) rfl (by rintro v_ H_ _ ⟨rfl, e_, h_⟩; exact ⟨rfl, e_, h_⟩)), (by rintro H' m_ hH hm_ hu_ _ ⟨v19, v21, rfl, h20, h22⟩; exact dn <| s_d (m_ 7) rfl (QW (v := .tuple ⟨[(Qd y15.1 v19 v21), errV 104 y15.2]⟩) rfl) (by exact ⟨v19, v21, rfl, h20, h22⟩) rfl), (by rintro H' m_ hH hm_ hu_ _ ⟨v23, v25, rfl, h24, h26⟩; exact dn <| s_d (m_ 8) rfl (Q6 rfl rfl) (by exact ⟨v23, v25, rfl, h24, h26⟩) rfl), (by rintro H' m_ hH hm_ hu_ _ ⟨v23, v25, rfl, h24, h26⟩; exact dn <| s_d (m_ 9) rfl (Q6 rfl rfl) (by exact rfl) rfl), (fun H' m_ hH hm_ hu_ => dn <| YV hm_ rfl rfl (YI zr26 rfl) rfl (fun _ => (ZB (hu_ 11 (by kernel_rfl)))) (by exact fun b_ => ⟨b_, rfl, rfl⟩)), (by rintro H' m_ hH hm_ hu_ _ ⟨v27, v29, rfl, h28, h30⟩ _ ⟨b31, rfl, hb31_⟩; exact dn <| Y3 (Λ' := fun z_ => z_ :: bx b2 z0c 26 :: bx b1 (XA a v0_a v1_a) 40 :: L) (bx b31 (QZ y15.1 v27 v29) 26) hm_ rfl hb31_ rfl (YJ (v := (Qd y15.1 v27 v29)) sz26 rfl rfl rfl rfl (oc rfl (oc (h28.one) (oc rfl (oc (h30.one) oz)))) .here u4) rfl rfl (by exact ⟨rfl, v27, v29, congrArg (fun b_ => (some (b_, Obj.cells ⟨(QZ y15.1 v27 v29)⟩ 26 (0, 0)) : Item')) (ZD hb31_).symm, h28, h30⟩)), trivial⟩ ?_
 intro H38 e39
 rintro _ _ rfl _ _ rfl _ _ ⟨v7, rfl, h8⟩ _ _ rfl _ _ rfl _ _ ⟨v13, rfl, h14⟩ _ _ ⟨v19, v21, rfl, h20, h22⟩ _ _ ⟨v23, v25, rfl, h24, h26⟩ _ _ ⟨v27, v29, rfl, h28, h30⟩ _ _ rfl _ _ ⟨b31, rfl, rfl⟩ _ i36 ⟨rfl, v32, v34, h37, h33, h35⟩
 replace h37 : i36 = bx b31 (QZ y15.1 v32 v34) 26 := h37
 subst h37
 refine w_it (L' := bx b31 (QZ y15.1 v32 v34) 26 :: bx b2 z0c 26 :: bx b1 (XA a v0_a v1_a) 40 :: L) rfl <| wA (errV 104 y15.2) rfl rfl <| wQ rfl <| wL (Qd y15.1 v32 v34) ty26 rfl rfl .here rfl rfl <| wS (Qd y15.1 v32 v34) sz26 rfl rfl rfl rfl rfl (XV h33 h35) .h1 u4 <| Qb ?_
 obtain rfl := sj he
 refine Qn fn_42 rs_42 (.box (v := (Qd y15.1 v32 v34)) rfl ty26 rfl rfl .h1 rfl .nil) <| ⟨⟨[_, _, _], rfl⟩, hle.trans e39, ⟨v32, v34, rfl, h33, h35⟩⟩
noncomputable def Qy.C : Code := (Tryz.f78.body).getD .skip
def Qy.out (r : Qs) (H : Hp) (v : Value) : Prop := ∃ v0, v = (Qc r v0) ∧ Ro kU32 H v0 r.f_w
theorem Qy.out_mono (r : Qs) {H H' : Hp} {v : Value} (hle : H.le H') (h : Qy.out r H v) : Qy.out r H' v := by
 obtain ⟨v0, rfl, h0⟩ := h; exact ⟨v0, rfl, h0.mono hle⟩
noncomputable def Qy.f (k : Nat) (a : Qg) : Option Qs := (Xo.f k a.f_d).bind fun y3 => if y3 = 0 then ((XH.f k 1).bind fun y8 => some (y8)) else (some (a.f_d))
theorem Qy.mono : ∀ k y0, LeO (Qy.f k y0) (Qy.f (k + 1) y0) := fun k _ => by unfold Qy.f; exact (LeO.bind (Xo.mono k _) fun _ => LeO.ite (LeO.bind (XH.mono k _) fun _ => LeO.refl _) (LeO.refl _))
theorem Qy.calls (k : Nat) {H : Hp} {L : Items} {a : Qg} {v0_a v1_a : Value} {r : Qs} (he : Qy.f k a = some r) (h0_a : Ro kU32 H v0_a a.f_n.f_w) (h1_a : Ro kU32 H v1_a a.f_d.f_w) : Ct Tryz.prog 78 ⟨[(Qd a v0_a v1_a)]⟩ H L (cR H L (Qy.out r)) := by
 refine XO (O := Qy.out r) ?_
 have hle : H.le H := .refl _
 unfold Qy.f at he
 refine QV (args := [_]) fn_78 rfl nt_78 rfl <| wR rfl <| wB (Qd a v0_a v1_a) rfl rfl rfl <| fun b1 => wN zr24 rfl rfl fun b2 => wE <| wR rfl <| w_d rfl (Q9 (o' := 2) Tryz.underlying26 rfl sz24 rfl rfl rfl) <| wL (Qc a.f_d v1_a) ty24 rfl rfl .h1 rfl rfl <| bK he fun y3 hy4 he => ?_
 refine w_d rfl (Xx (Qm co84 (vs := [(Qc a.f_d v1_a)]) rfl (Xo.calls k (a := a.f_d) hy4 h1_a))) <| w_d rfl (Zh rfl rfl) <| Qb ?_
 rcases its he with ⟨c7, he⟩ | ⟨c7, he⟩
 ·
  refine QE rfl (dt c7) <| wR rfl <| bK he fun y8 hy9 he => w_a rfl (Qm co71 (vs := [.int .i64 1]) rfl (XH.calls k hy9)) ?_
  rintro _ H10 _ ⟨rfl, e11, v12, rfl, h13⟩
  refine wS (Qc y8 v12) sz24 rfl rfl rfl rfl rfl (XD h13) .here u2 <| Qb ?_
  obtain rfl := sj he
  refine Qn fn_78 rs_78 (.box (v := (Qc y8 v12)) rfl ty24 rfl rfl .here rfl .nil) <| ⟨⟨[_, _], rfl⟩, hle.trans e11, ⟨v12, rfl, h13⟩⟩
 ·
  refine QF rfl (df c7) <| QH <| wR rfl <| w_d rfl (Q9 (o' := 2) Tryz.underlying26 rfl sz24 rfl rfl rfl) <| wL (Qc a.f_d v1_a) ty24 rfl rfl .h1 rfl rfl <| wS (Qc a.f_d v1_a) sz24 rfl rfl rfl rfl rfl (XD h1_a) .here u2 <| Qb ?_
  obtain rfl := sj he
  refine Qn fn_78 rs_78 (.box (v := (Qc a.f_d v1_a)) rfl ty24 rfl rfl .here rfl .nil) <| ⟨⟨[_, _], rfl⟩, hle, ⟨v1_a, rfl, h1_a⟩⟩
noncomputable def XW.C : Code := (Tryz.f83.body).getD .skip
def XW.out (r : Qs × Qs) (H : Hp) (v : Value) : Prop := ∃ v0 v1, v = .tuple ⟨[(Qc r.1 v0), (Qc r.2 v1)]⟩ ∧ Ro kU32 H v0 r.1.f_w ∧ Ro kU32 H v1 r.2.f_w
noncomputable def XW.f (k : Nat) (a : Qg) : Option (Qs × Qs) := (Qy.f k a).bind fun y4 => some (a.f_n, y4)
theorem XW.mono : ∀ k y0, LeO (XW.f k y0) (XW.f (k + 1) y0) := fun k _ => by unfold XW.f; exact (LeO.bind (Qy.mono k _) fun _ => LeO.refl _)
theorem XW.calls (k : Nat) {H : Hp} {L : Items} {a : Qg} {v0_a v1_a : Value} {r : Qs × Qs} (he : XW.f k a = some r) (h0_a : Ro kU32 H v0_a a.f_n.f_w) (h1_a : Ro kU32 H v1_a a.f_d.f_w) : Ct Tryz.prog 83 ⟨[(Qd a v0_a v1_a)]⟩ H L (cR H L (XW.out r)) := by
 refine XO (O := XW.out r) ?_
 have hle : H.le H := .refl _
 unfold XW.f at he
 refine QV (args := [_]) fn_83 rfl nt_83 rfl <| wR rfl <| wB (Qd a v0_a v1_a) rfl rfl rfl <| fun b1 => wN zr24 rfl rfl fun b2 => wN zr24 rfl rfl fun b3 => wE <| bK he fun y4 hy5 he => Xy (p := 4) (tl := [4, 5]) [[], [(0, some 4)], [], [(2, some 6)]] [some 4, some 5, some 6, some 7] (fctF (.is (pt b1) :: .is (Qc a.f_n v0_a) :: .is (Qd a v0_a v1_a) :: .of (Qy.out y4) (Qy.out_mono _) :: [])) (fun m_ => bx b3 [.bool false, .slice none 0 0] 24 :: bx b2 [.bool false, .slice none 0 0] 24 :: bx b1 (QZ a v0_a v1_a) 26 :: L) (fun _ => none) mixed (by kernel_rfl) (by kernel_rfl) rfl (Xn (by kernel_rfl)) ⟨(fun H' m_ hH hm_ hu_ => dn <| s_d (m_ 0) rfl (Q9 (o' := 0) Tryz.underlying26 rfl sz24 rfl rfl rfl) (by exact rfl) rfl), (by rintro H' m_ hH hm_ hu_ _ rfl; exact dn <| s_d (m_ 1) rfl (QG (v := (Qc a.f_n v0_a)) ty24 rfl .h2 rfl rfl rfl rfl) (by exact rfl) rfl), (fun H' m_ hH hm_ hu_ => dn <| s_d (m_ 2) rfl (QG (v := (Qd a v0_a v1_a)) ty26 rfl .h2 rfl rfl rfl rfl) (by exact rfl) rfl), (by rintro H' m_ hH hm_ hu_ _ rfl; exact dn <| s_k (m_ 3) rfl (Qm co78 (vs := [(Qd a v0_a v1_a)]) rfl (Qy.calls k (a := a) hy5 (h0_a.mono hH) (h1_a.mono hH))) rfl (by rintro v_ H_ _ ⟨rfl, e_, h_⟩; exact ⟨rfl, e_, h_⟩)), trivial⟩ ?_
 intro H10 e11
 rintro _ _ rfl _ _ rfl _ _ rfl _ _ ⟨v8, rfl, h9⟩
 refine wS (Qc a.f_n v0_a) sz24 rfl rfl rfl rfl rfl (XD h0_a) .h1 u2 <| wS (Qc y4 v8) sz24 rfl rfl rfl rfl rfl (XD h9) .here u2 <| Qb ?_
 obtain rfl := sj he
 refine Qn fn_83 rs_83 (.box (v := (Qc a.f_n v0_a)) rfl ty24 rfl rfl .h1 rfl (.box (v := (Qc y4 v8)) rfl ty24 rfl rfl .here rfl .nil)) <| ⟨⟨[_, _, _], rfl⟩, hle.trans e11, ⟨v0_a, v8, rfl, (h0_a.mono e11), h9⟩⟩
end Go.Proofs.YtkccpkccdbfomaaGreatDoor.GBA

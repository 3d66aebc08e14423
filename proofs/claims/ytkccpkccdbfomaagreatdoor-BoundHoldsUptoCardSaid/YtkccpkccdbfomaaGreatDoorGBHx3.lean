/- printed by gen.py -/
import Derived.Test.YtkccpkccdbfomaaGreatDoorGBHx2
namespace Go.Proofs.YtkccpkccdbfomaaGreatDoor.GBH
open Go Go.RowKit Go.Proofs.YtkccpkccdbfomaaGreatDoorK Go.Proofs.YtkccpkccdbfomaaGreatDoor
set_option maxRecDepth 100000
set_option maxHeartbeats 2000000
set_option linter.unusedVariables false
set_option linter.unusedSimpArgs false
noncomputable def Qz.C : Code := (Tryz.f145.body).getD .skip
abbrev Qz.out (r : (List Int)) (H : Hp) (v : Value) : Prop := Ro kU32 H v r
abbrev Qz.R (H0 : Hp) (L : Items) (r : (List Int)) := fR H0 L (Qz.out r)
structure Qz.Hs where
 l0 : (List Int) → (List Int) → (List Int) → Int → Int → Option (List Int)
 l1 : (List Int) → (List Int) → Int → Int → Int → (List Int) → Int → Int → (List Int) → Int → Int → Option (List Int)
noncomputable def Qz.b0 (k : Nat) (h : Qz.Hs) (b out t18 : List Int) (t19 t20 : Int) : Option (List Int) := if t20 < t19 then (if (0 : Int) ≤ t20 ∧ t20 < (t18.length : Int) then (h.l1 b out t20 (rd t18 t20) 0 t18 t19 t20 b (b.length : Int) 0) else none) else (some (out))
noncomputable def Qz.b1 (k : Nat) (h : Qz.Hs) (b out : List Int) (i x carry : Int) (t18 : List Int) (t19 t20 : Int) (t25 : List Int) (t26 t27 : Int) : Option (List Int) := if t27 < t26 then (if (0 : Int) ≤ t27 ∧ t27 < (t25.length : Int) then (if (0 : Int) ≤ w64 (i + t27) ∧ w64 (i + t27) < (out.length : Int) then (if (0 : Int) ≤ w64 (i + t27) ∧ w64 (i + t27) < (out.length : Int) then (h.l1 b (out.set (w64 (i + t27) : Int).toNat (((((((((x) % 18446744073709551616) * ((rd t25 t27) % 18446744073709551616)) % 18446744073709551616) + ((rd out (w64 (i + t27))) % 18446744073709551616)) % 18446744073709551616) + carry) % 18446744073709551616) % 4294967296)) i x (((((((((x) % 18446744073709551616) * ((rd t25 t27) % 18446744073709551616)) % 18446744073709551616) + ((rd out (w64 (i + t27))) % 18446744073709551616)) % 18446744073709551616) + carry) % 18446744073709551616) / 4294967296) t18 t19 t20 t25 t26 (w64 (t27 + 1))) else none) else none) else none) else (if (0 : Int) ≤ w64 (i + (b.length : Int)) ∧ w64 (i + (b.length : Int)) < (out.length : Int) then (h.l0 b (out.set (w64 (i + (b.length : Int)) : Int).toNat ((carry) % 4294967296)) t18 t19 (w64 (t20 + 1))) else none)
noncomputable def Qz.hs : Nat → Qz.Hs
 | 0 => ⟨fun _ _ _ _ _ => none, fun _ _ _ _ _ _ _ _ _ _ _ => none⟩
 | k + 1 => ⟨fun x0 x1 x2 x3 x4 => Qz.b0 k (Qz.hs k) x0 x1 x2 x3 x4, fun x0 x1 x2 x3 x4 x5 x6 x7 x8 x9 x10 => Qz.b1 k (Qz.hs k) x0 x1 x2 x3 x4 x5 x6 x7 x8 x9 x10⟩
noncomputable def Qz.f (k : Nat) (a b : List Int) : Option (List Int) := (fun h : Qz.Hs => if 0 ≤ w64 ((a.length : Int) + (b.length : Int)) ∧ w64 ((a.length : Int) + (b.length : Int)) ≤ 70368744177664 then (h.l0 b (List.replicate (w64 ((a.length : Int) + (b.length : Int)) : Int).toNat (0 : Int)) a (a.length : Int) 0) else none) (Qz.hs k)
structure Qz.LE (h h' : Qz.Hs) : Prop where
 l0 : ∀ y0 y1 y2 y3 y4, LeO (h.l0 y0 y1 y2 y3 y4) (h'.l0 y0 y1 y2 y3 y4)
 l1 : ∀ y0 y1 y2 y3 y4 y5 y6 y7 y8 y9 y10, LeO (h.l1 y0 y1 y2 y3 y4 y5 y6 y7 y8 y9 y10) (h'.l1 y0 y1 y2 y3 y4 y5 y6 y7 y8 y9 y10)
theorem Qz.b0_mono {k : Nat} {h h' : Qz.Hs} (hl : Qz.LE h h') : ∀ y0 y1 y2 y3 y4, LeO (Qz.b0 k h y0 y1 y2 y3 y4) (Qz.b0 (k + 1) h' y0 y1 y2 y3 y4) := fun _ _ _ _ _ => (LeO.ite (LeO.ite (hl.l1 _ _ _ _ _ _ _ _ _ _ _) (LeO.refl _)) (LeO.refl _))
theorem Qz.b1_mono {k : Nat} {h h' : Qz.Hs} (hl : Qz.LE h h') : ∀ y0 y1 y2 y3 y4 y5 y6 y7 y8 y9 y10, LeO (Qz.b1 k h y0 y1 y2 y3 y4 y5 y6 y7 y8 y9 y10) (Qz.b1 (k + 1) h' y0 y1 y2 y3 y4 y5 y6 y7 y8 y9 y10) := fun _ _ _ _ _ _ _ _ _ _ _ => (LeO.ite (LeO.ite (LeO.ite (LeO.ite (hl.l1 _ _ _ _ _ _ _ _ _ _ _) (LeO.refl _)) (LeO.refl _)) (LeO.refl _)) (LeO.ite (hl.l0 _ _ _ _ _) (LeO.refl _)))
theorem Qz.hs_mono : ∀ k, Qz.LE (Qz.hs k) (Qz.hs (k + 1))
 | 0 => ⟨fun _ _ _ _ _ => LeO.none _, fun _ _ _ _ _ _ _ _ _ _ _ => LeO.none _⟩
 | k + 1 => ⟨Qz.b0_mono (k := k) (Qz.hs_mono k), Qz.b1_mono (k := k) (Qz.hs_mono k)⟩
theorem Qz.mono : ∀ k y0 y1, LeO (Qz.f k y0 y1) (Qz.f (k + 1) y0 y1) := fun k _ _ => have hl := Qz.hs_mono k; by unfold Qz.f; exact (LeO.ite (hl.l0 _ _ _ _ _) (LeO.refl _))
noncomputable def Qz.Kl0 : List Item := .code (lopB (blkB (seqR (seqL (seqR (seqR Qz.C)))))) :: .inLoop (lopB (blkB (seqR (seqL (seqR (seqR Qz.C)))))) :: .inBlock 0 :: .code (seqR (seqR (seqR Qz.C))) :: []
noncomputable def Qz.Kl1 : List Item := .code (lopB (blkB (seqR (seqL (seqR (seqR (blkB (seqL (seqR (seqR (lopB (blkB (seqR (seqL (seqR (seqR Qz.C)))))))))))))))) :: .inLoop (lopB (blkB (seqR (seqL (seqR (seqR (blkB (seqL (seqR (seqR (lopB (blkB (seqR (seqL (seqR (seqR Qz.C)))))))))))))))) :: .inBlock 2 :: .code (seqR (seqR (seqR (blkB (seqL (seqR (seqR (lopB (blkB (seqR (seqL (seqR (seqR Qz.C))))))))))))) :: .inBlock 1 :: .code (seqR (seqR (seqR (lopB (blkB (seqR (seqL (seqR (seqR Qz.C))))))))) :: .inLoop (lopB (blkB (seqR (seqL (seqR (seqR Qz.C)))))) :: .inBlock 0 :: .code (seqR (seqR (seqR Qz.C))) :: []
structure Qz.OK (h : Qz.Hs) : Prop where
 l0 : ∀ {H0 H : Hp} {L : Items} {r : (List Int)} {jk_ : Nat → Value} {b : List Int} {out : List Int} {t18 : List Int} {t19 : Int} {t20 : Int} {v_b : Value} {v_out : Value} {v_t18 : Value} {i_out : Item'} (_ : H0.le H) (_he : h.l0 b out t18 t19 t20 = some r) (_h_b : Src kU32 H L v_b b) (_h_out : Sl kU32 H 167 i_out v_out out) (_h_t18 : Src kU32 H L v_t18 t18), Wp Tryz.prog 145 67 Qz.Kl0 (upd (upd (upd (upd (upd (upd jk_ 1 (v_b)) 4 (.slice none 0 0)) 5 (v_out)) 18 (v_t18)) 19 (.int .i64 t19)) 20 (.int .i64 t20)) H (i_out :: L) (Qz.R H0 L r)
 l1 : ∀ {H0 H : Hp} {L : Items} {r : (List Int)} {jk_ : Nat → Value} {b : List Int} {out : List Int} {i : Int} {x : Int} {carry : Int} {t18 : List Int} {t19 : Int} {t20 : Int} {t25 : List Int} {t26 : Int} {t27 : Int} {v_b : Value} {v_out : Value} {v_t18 : Value} {v_t25 : Value} {i_out : Item'} (_ : H0.le H) (_he : h.l1 b out i x carry t18 t19 t20 t25 t26 t27 = some r) (_h_b : Src kU32 H L v_b b) (_h_out : Sl kU32 H 167 i_out v_out out) (_h_t18 : Src kU32 H L v_t18 t18) (_h_t25 : Src kU32 H L v_t25 t25), Wp Tryz.prog 145 67 Qz.Kl1 (upd (upd (upd (upd (upd (upd (upd (upd (upd (upd (upd (upd jk_ 1 (v_b)) 4 (.slice none 0 0)) 5 (v_out)) 6 (.int .i64 i)) 7 (.int .u32 x)) 8 (.int .u64 carry)) 18 (v_t18)) 19 (.int .i64 t19)) 20 (.int .i64 t20)) 25 (v_t25)) 26 (.int .i64 t26)) 27 (.int .i64 t27)) H (i_out :: L) (Qz.R H0 L r)
theorem Qz.b0_ok {k : Nat} {h : Qz.Hs} (hh : Qz.OK h) {H0 H : Hp} {L : Items} {r : (List Int)} {jk_ : Nat → Value} {b out t18 : List Int} {t19 t20 : Int} {v_b v_out v_t18 : Value} {i_out : Item'} (hle : H0.le H) (he : Qz.b0 k h b out t18 t19 t20 = some r) (h_b : Src kU32 H L v_b b) (h_out : Sl kU32 H 167 i_out v_out out) (h_t18 : Src kU32 H L v_t18 t18) : Wp Tryz.prog 145 67 Qz.Kl0 (upd (upd (upd (upd (upd (upd jk_ 1 (v_b)) 4 (.slice none 0 0)) 5 (v_out)) 18 (v_t18)) 19 (.int .i64 t19)) 20 (.int .i64 t20)) H (i_out :: L) (Qz.R H0 L r) := by
 unfold Qz.b0 at he
 unfold Qz.Kl0
 refine wR rfl <| w_d rfl (XG rfl rfl) <| wE ?_
 rcases its he with ⟨c5, he⟩ | ⟨c5, he⟩
 ·
  refine Qy rfl (dt c5) <| QA <| QV <| QU <| wR rfl <| wM (.int .i64 t20) rfl rfl <| rK he fun c6 he => w_d rfl (XM (sz := 1) Tryz.underlying22 sz167 rfl h_t18.th rfl c6) <| w_d rfl (XL ty167 rfl h_t18.th c6) <| wA (.int .i64 t20) rfl rfl <| wA (.int .u32 (rd t18 t20)) rfl rfl ?_
  refine wQ rfl <| wA (.int .u64 0) rfl rfl <| wE <| wR rfl <| wM v_b rfl rfl <| w_d rfl (Xq Tryz.underlying22 rfl h_b.th) <| wM (.int .i64 0) rfl rfl <| Qa ?_
  refine QU <| X3 <| w_sl 1 (v_b) rfl <| w_sl 4 (.slice none 0 0) rfl <| w_sl 5 (v_out) rfl <| w_sl 6 (.int .i64 t20) rfl <| w_sl 7 (.int .u32 (rd t18 t20)) rfl <| w_sl 8 (.int .u64 0) rfl <| w_sl 18 (v_t18) rfl <| w_sl 19 (.int .i64 t19) rfl <| w_sl 20 (.int .i64 t20) rfl <| w_sl 25 (v_b) rfl ?_
  refine w_sl 26 (.int .i64 (b.length : Int)) rfl <| w_sl 27 (.int .i64 0) rfl <| hh.l1 hle he h_b h_out h_t18 h_b
 ·
  refine QB rfl (df c5) <| X1 rfl <| wR rfl <| wM v_out rfl rfl <| wA v_out rfl rfl <| Qa <| Yv h_out .here ?_
  intro H7 e8 h9
  obtain rfl := sj he
  refine Qi fn_145 rs_145 (.tmp (v := v_out) rfl .nil) <| ⟨⟨[_], rfl⟩, hle.trans e8, h9⟩
theorem Qz.b1_ok {k : Nat} {h : Qz.Hs} (hh : Qz.OK h) {H0 H : Hp} {L : Items} {r : (List Int)} {jk_ : Nat → Value} {b out : List Int} {i x carry : Int} {t18 : List Int} {t19 t20 : Int} {t25 : List Int} {t26 t27 : Int} {v_b v_out v_t18 v_t25 : Value} {i_out : Item'} (hle : H0.le H) (he : Qz.b1 k h b out i x carry t18 t19 t20 t25 t26 t27 = some r) (h_b : Src kU32 H L v_b b) (h_out : Sl kU32 H 167 i_out v_out out) (h_t18 : Src kU32 H L v_t18 t18) (h_t25 : Src kU32 H L v_t25 t25) : Wp Tryz.prog 145 67 Qz.Kl1 (upd (upd (upd (upd (upd (upd (upd (upd (upd (upd (upd (upd jk_ 1 (v_b)) 4 (.slice none 0 0)) 5 (v_out)) 6 (.int .i64 i)) 7 (.int .u32 x)) 8 (.int .u64 carry)) 18 (v_t18)) 19 (.int .i64 t19)) 20 (.int .i64 t20)) 25 (v_t25)) 26 (.int .i64 t26)) 27 (.int .i64 t27)) H (i_out :: L) (Qz.R H0 L r) := by
 unfold Qz.b1 at he
 unfold Qz.Kl1
 refine wR rfl <| w_d rfl (XG rfl rfl) <| wE ?_
 rcases its he with ⟨c10, he⟩ | ⟨c10, he⟩
 ·
  refine Qy rfl (dt c10) <| QA <| QV <| QU <| wR rfl <| wM (.int .i64 t27) rfl rfl <| rK he fun c11 he => w_d rfl (XM (sz := 1) Tryz.underlying22 sz167 rfl h_t25.th rfl c11) <| w_d rfl (XL ty167 rfl h_t25.th c11) <| wA (.int .i64 t27) rfl rfl <| wA (.int .u32 (rd t25 t27)) rfl rfl ?_
  refine wQ rfl <| wM (.int .u32 x) rfl rfl <| w_d rfl (XY (c := (x) % 18446744073709551616) Tryz.underlying167 Tryz.underlying113 rfl rfl) <| wM (.int .u32 (rd t25 t27)) rfl rfl <| w_d rfl (XY (c := (rd t25 t27) % 18446744073709551616) Tryz.underlying167 Tryz.underlying113 rfl rfl) <| w_d rfl (ZA (c := (((x) % 18446744073709551616) * ((rd t25 t27) % 18446744073709551616)) % 18446744073709551616) rfl rfl rfl) <| wM v_out rfl rfl <| wM (.int .i64 i) rfl rfl <| wM (.int .i64 t27) rfl rfl <| w_d rfl (Xt (c := w64 (i + t27)) rfl rfl rfl) ?_
  refine rK he fun c12 he => w_d rfl (YF (sz := 1) Tryz.underlying22 sz167 rfl h_out.shp rfl c12) <| w_d rfl (XL ty167 rfl (h_out.src .here) c12) <| w_d rfl (XY (c := (rd out (w64 (i + t27))) % 18446744073709551616) Tryz.underlying167 Tryz.underlying113 rfl rfl) <| w_d rfl (Xt (c := (((((x) % 18446744073709551616) * ((rd t25 t27) % 18446744073709551616)) % 18446744073709551616) + ((rd out (w64 (i + t27))) % 18446744073709551616)) % 18446744073709551616) rfl rfl rfl) <| wM (.int .u64 carry) rfl rfl <| w_d rfl (Xt (c := (((((((x) % 18446744073709551616) * ((rd t25 t27) % 18446744073709551616)) % 18446744073709551616) + ((rd out (w64 (i + t27))) % 18446744073709551616)) % 18446744073709551616) + carry) % 18446744073709551616) rfl rfl rfl) <| wA (.int .u64 ((((((((x) % 18446744073709551616) * ((rd t25 t27) % 18446744073709551616)) % 18446744073709551616) + ((rd out (w64 (i + t27))) % 18446744073709551616)) % 18446744073709551616) + carry) % 18446744073709551616)) rfl rfl <| wQ rfl <| wM v_out rfl rfl ?_
  refine wM (.int .i64 i) rfl rfl <| wM (.int .i64 t27) rfl rfl <| w_d rfl (Xt (c := w64 (i + t27)) rfl rfl rfl) <| wM (.int .u64 ((((((((x) % 18446744073709551616) * ((rd t25 t27) % 18446744073709551616)) % 18446744073709551616) + ((rd out (w64 (i + t27))) % 18446744073709551616)) % 18446744073709551616) + carry) % 18446744073709551616)) rfl rfl <| w_d rfl (XY (c := ((((((((x) % 18446744073709551616) * ((rd t25 t27) % 18446744073709551616)) % 18446744073709551616) + ((rd out (w64 (i + t27))) % 18446744073709551616)) % 18446744073709551616) + carry) % 18446744073709551616) % 4294967296) Tryz.underlying113 Tryz.underlying167 rfl rfl) <| rK he fun c13 he => w_d rfl (YF (sz := 1) Tryz.underlying22 sz167 rfl h_out.shp rfl c13) <| w_a0 rfl (Y4 (kd := kU32) (v := .int .u32 (((((((((x) % 18446744073709551616) * ((rd t25 t27) % 18446744073709551616)) % 18446744073709551616) + ((rd out (w64 (i + t27))) % 18446744073709551616)) % 18446744073709551616) + carry) % 18446744073709551616) % 4294967296)) (F := fun z_ => z_ :: L) sz167 rfl rfl rfl rfl h_out c13 (fun _ => .here)) ?_
  rintro _ _ _ ⟨i14, rfl, rfl, rfl, h15⟩
  refine Qa <| QD rfl <| wM (.int .u64 ((((((((x) % 18446744073709551616) * ((rd t25 t27) % 18446744073709551616)) % 18446744073709551616) + ((rd out (w64 (i + t27))) % 18446744073709551616)) % 18446744073709551616) + carry) % 18446744073709551616)) rfl rfl <| w_d rfl (Y0 (c := ((((((((x) % 18446744073709551616) * ((rd t25 t27) % 18446744073709551616)) % 18446744073709551616) + ((rd out (w64 (i + t27))) % 18446744073709551616)) % 18446744073709551616) + carry) % 18446744073709551616) / 4294967296) rfl rfl (by decide) rfl) <| wA (.int .u64 (((((((((x) % 18446744073709551616) * ((rd t25 t27) % 18446744073709551616)) % 18446744073709551616) + ((rd out (w64 (i + t27))) % 18446744073709551616)) % 18446744073709551616) + carry) % 18446744073709551616) / 4294967296)) rfl rfl <| Qa <| Xk <| QD rfl <| w_d rfl (Xt (c := w64 (t27 + 1)) rfl rfl rfl) <| wM (.int .i64 (w64 (t27 + 1))) rfl rfl <| Qa <| Xy ?_
  refine w_sl 1 (v_b) rfl <| w_sl 4 (.slice none 0 0) rfl <| w_sl 5 (v_out) rfl <| w_sl 6 (.int .i64 i) rfl <| w_sl 7 (.int .u32 x) rfl <| w_sl 8 (.int .u64 (((((((((x) % 18446744073709551616) * ((rd t25 t27) % 18446744073709551616)) % 18446744073709551616) + ((rd out (w64 (i + t27))) % 18446744073709551616)) % 18446744073709551616) + carry) % 18446744073709551616) / 4294967296)) rfl <| w_sl 18 (v_t18) rfl <| w_sl 19 (.int .i64 t19) rfl <| w_sl 20 (.int .i64 t20) rfl <| w_sl 25 (v_t25) rfl <| w_sl 26 (.int .i64 t26) rfl <| w_sl 27 (.int .i64 (w64 (t27 + 1))) rfl <| hh.l1 hle he h_b h15 h_t18 h_t25
 ·
  refine QB rfl (df c10) <| X1 rfl <| QD rfl <| wM v_out rfl rfl <| wM (.int .i64 i) rfl rfl <| wM v_b rfl rfl <| w_d rfl (Xq Tryz.underlying22 rfl h_b.th) <| w_d rfl (Xt (c := w64 (i + (b.length : Int))) rfl rfl rfl) <| wM (.int .u64 carry) rfl rfl <| w_d rfl (XY (c := (carry) % 4294967296) Tryz.underlying113 Tryz.underlying167 rfl rfl) <| rK he fun c16 he => w_d rfl (YF (sz := 1) Tryz.underlying22 sz167 rfl h_out.shp rfl c16) ?_
  refine w_a0 rfl (Y4 (kd := kU32) (v := .int .u32 ((carry) % 4294967296)) (F := fun z_ => z_ :: L) sz167 rfl rfl rfl rfl h_out c16 (fun _ => .here)) ?_
  rintro _ _ _ ⟨i17, rfl, rfl, rfl, h18⟩
  refine Qa <| Xk <| QD rfl <| w_d rfl (Xt (c := w64 (t20 + 1)) rfl rfl rfl) <| wM (.int .i64 (w64 (t20 + 1))) rfl rfl <| Qa <| Xy <| w_sl 1 (v_b) rfl <| w_sl 4 (.slice none 0 0) rfl <| w_sl 5 (v_out) rfl <| w_sl 18 (v_t18) rfl <| w_sl 19 (.int .i64 t19) rfl ?_
  refine w_sl 20 (.int .i64 (w64 (t20 + 1))) rfl <| hh.l0 hle he h_b h18 h_t18
theorem Qz.ok : ∀ k, Qz.OK (Qz.hs k)
 | 0 => ⟨(by intros; exact nomatch (show none = some _ from by assumption)), (by intros; exact nomatch (show none = some _ from by assumption))⟩
 | k + 1 => ⟨Qz.b0_ok (k := k) (Qz.ok k), Qz.b1_ok (k := k) (Qz.ok k)⟩
theorem Qz.calls (k : Nat) {H : Hp} {L : Items} {a b : List Int} {v0_a v1_b : Value} {r : (List Int)} (he : Qz.f k a b = some r) (h0_a : Src kU32 H L v0_a a) (h1_b : Src kU32 H L v1_b b) : Ct Tryz.prog 145 ⟨[v0_a, v1_b]⟩ H L (cR H L (Qz.out r)) := by
 refine XR (O := Qz.out r) ?_
 have hle : H.le H := .refl _
 have hh := Qz.ok k
 unfold Qz.f at he
 refine QP (args := [_, _]) fn_145 rfl nt_145 rfl <| wR rfl <| wA (.slice none 0 0) rfl rfl <| wQ rfl <| wM v0_a rfl rfl <| w_d rfl (Xq Tryz.underlying22 rfl h0_a) <| wM v1_b rfl rfl <| w_d rfl (Xq Tryz.underlying22 rfl h1_b) <| w_d rfl (Xt (c := w64 ((a.length : Int) + (b.length : Int))) rfl rfl rfl) ?_
 refine rK he fun c1 he => w_a rfl (o_make' (kd := kU32) (z0 := 0) Tryz.underlying22 ti167 (zp167 _) rfl rfl (by omega) (by omega) (by omega)) ?_
 rintro v2 _ _ ⟨i3, rfl, rfl, h4⟩
 refine wA v2 rfl rfl <| wE <| wR rfl <| wM v0_a rfl rfl <| w_d rfl (Xq Tryz.underlying22 rfl h0_a.th) <| wM (.int .i64 0) rfl rfl <| Qa <| QU <| X3 <| w_sl 1 (v1_b) rfl ?_
 refine w_sl 4 (.slice none 0 0) rfl <| w_sl 5 (v2) rfl <| w_sl 18 (v0_a) rfl <| w_sl 19 (.int .i64 (a.length : Int)) rfl <| w_sl 20 (.int .i64 0) rfl <| hh.l0 hle he h1_b h4 h0_a
noncomputable def QQ.C : Code := (Tryz.f113.body).getD .skip
abbrev QQ.out (r : (List Int)) (H : Hp) (v : Value) : Prop := Ro kU32 H v r
abbrev QQ.R (H0 : Hp) (L : Items) (r : (List Int)) := fR H0 L (QQ.out r)
structure QQ.Hs where
 l0 : (List Int) → Option (List Int)
noncomputable def QQ.b0 (k : Nat) (h : QQ.Hs) (w : List Int) : Option (List Int) := if (decide (0 < (w.length : Int))) = true → (0 : Int) ≤ w64 ((w.length : Int) - 1) ∧ w64 ((w.length : Int) - 1) < (w.length : Int) then (if ((decide (0 < (w.length : Int))) && (decide ((rd w (w64 ((w.length : Int) - 1))) = 0))) = true then (if (0 : Int) ≤ 0 ∧ (0 : Int) ≤ w64 ((w.length : Int) - 1) ∧ w64 ((w.length : Int) - 1) ≤ (w.length : Int) then (h.l0 (cut w 0 (w64 ((w.length : Int) - 1)))) else none) else (some (w))) else none
noncomputable def QQ.hs : Nat → QQ.Hs
 | 0 => ⟨fun _ => none⟩
 | k + 1 => ⟨fun x0 => QQ.b0 k (QQ.hs k) x0⟩
noncomputable def QQ.f (k : Nat) (w : List Int) : Option (List Int) := (fun h : QQ.Hs => h.l0 w) (QQ.hs k)
structure QQ.LE (h h' : QQ.Hs) : Prop where
 l0 : ∀ y0, LeO (h.l0 y0) (h'.l0 y0)
theorem QQ.b0_mono {k : Nat} {h h' : QQ.Hs} (hl : QQ.LE h h') : ∀ y0, LeO (QQ.b0 k h y0) (QQ.b0 (k + 1) h' y0) := fun _ => (LeO.ite (LeO.ite (LeO.ite (hl.l0 _) (LeO.refl _)) (LeO.refl _)) (LeO.refl _))
theorem QQ.hs_mono : ∀ k, QQ.LE (QQ.hs k) (QQ.hs (k + 1))
 | 0 => ⟨fun _ => LeO.none _⟩
 | k + 1 => ⟨QQ.b0_mono (k := k) (QQ.hs_mono k)⟩
theorem QQ.mono : ∀ k y0, LeO (QQ.f k y0) (QQ.f (k + 1) y0) := fun k _ => have hl := QQ.hs_mono k; by unfold QQ.f; exact (hl.l0 _)
noncomputable def QQ.Kl0 : List Item := .code (lopB (blkB (seqL (seqR QQ.C)))) :: .inLoop (lopB (blkB (seqL (seqR QQ.C)))) :: .inBlock 0 :: .code (seqR (seqR QQ.C)) :: []
structure QQ.OK (h : QQ.Hs) : Prop where
 l0 : ∀ {H0 H : Hp} {L : Items} {r : (List Int)} {jk_ : Nat → Value} {w : List Int} {v_w : Value} (_ : H0.le H) (_he : h.l0 w = some r) (_h_w : Ro kU32 H v_w w), Wp Tryz.prog 113 21 QQ.Kl0 (upd (upd jk_ 0 (v_w)) 2 (.slice none 0 0)) H (L) (QQ.R H0 L r)
theorem QQ.b0_ok {k : Nat} {h : QQ.Hs} (hh : QQ.OK h) {H0 H : Hp} {L : Items} {r : (List Int)} {jk_ : Nat → Value} {w : List Int} {v_w : Value} (hle : H0.le H) (he : QQ.b0 k h w = some r) (h_w : Ro kU32 H v_w w) : Wp Tryz.prog 113 21 QQ.Kl0 (upd (upd jk_ 0 (v_w)) 2 (.slice none 0 0)) H (L) (QQ.R H0 L r) := by
 unfold QQ.b0 at he
 unfold QQ.Kl0
 refine QV <| wR rfl <| wM v_w rfl rfl <| w_d rfl (Xq Tryz.underlying22 rfl h_w.src) <| w_d rfl (YR rfl rfl) <| wM (.bool (decide (0 < (w.length : Int)))) rfl rfl <| w_g (g := decide (0 < (w.length : Int))) rfl rfl rfl wn_t (fun g1 => QF (v := v_w) rfl) <| w_g (g := decide (0 < (w.length : Int))) rfl rfl rfl wn_t (fun g2 => QF (v := v_w) rfl) <| w_g (g := decide (0 < (w.length : Int))) rfl rfl rfl wn_t (fun g3 => Xq Tryz.underlying22 (cvt g3) h_w.src) <| w_g (g := decide (0 < (w.length : Int))) rfl rfl rfl wn_t (fun g4 => Ys (c := w64 ((w.length : Int) - 1)) (cvt g4) rfl rfl) <| rK he fun c6 he => ?_
 refine w_g (g := decide (0 < (w.length : Int))) rfl rfl rfl wn_t (fun g5 => XM (sz := 1) Tryz.underlying22 sz167 (cvt g5) h_w.src (cvt g5) (c6 g5)) <| w_g (g := decide (0 < (w.length : Int))) rfl rfl rfl wn_t (fun g7 => XL ty167 (cvt g7) h_w.src (c6 g7)) <| w_g (g := decide (0 < (w.length : Int))) rfl rfl rfl wn_t (fun g8 => Y1 (cvt g8) rfl) <| w_d rfl (d_and' (b := (decide (0 < (w.length : Int)))) (p := (decide ((rd w (w64 ((w.length : Int) - 1))) = 0))) rfl rfl rfl) <| Qa ?_
 rcases its he with ⟨c9, he⟩ | ⟨c9, he⟩
 ·
  refine Qy rfl c9 <| QA <| QU <| QD rfl <| wM v_w rfl rfl <| wM v_w rfl rfl <| w_d rfl (Xq Tryz.underlying22 rfl h_w.src) <| w_d rfl (Ys (c := w64 ((w.length : Int) - 1)) rfl rfl rfl) <| rK he fun c10 he => w_a rfl (Ni (kd := kU32) Tryz.underlying22 sz167 rfl h_w (.inl ⟨rfl, rfl⟩) (.inr ⟨_, _, rfl, rfl⟩) c10) ?_
  rintro v11 _ _ ⟨h12, rfl, rfl⟩
  refine wA v11 rfl rfl <| Qa <| Xk <| Xy <| w_sl 0 (v11) rfl <| w_sl 2 (.slice none 0 0) rfl <| hh.l0 hle he h12
 ·
  refine QB rfl (Bool.eq_false_iff.2 c9) <| X1 rfl <| wR rfl <| wM v_w rfl rfl <| wA v_w rfl rfl <| Qa ?_
  obtain rfl := sj he
  refine Qi fn_113 rs_113 (.tmp (v := v_w) rfl .nil) <| ⟨⟨[], rfl⟩, hle, h_w⟩
theorem QQ.ok : ∀ k, QQ.OK (QQ.hs k)
 | 0 => ⟨(by intros; exact nomatch (show none = some _ from by assumption))⟩
 | k + 1 => ⟨QQ.b0_ok (k := k) (QQ.ok k)⟩
theorem QQ.calls (k : Nat) {H : Hp} {L : Items} {w : List Int} {v0_w : Value} {r : (List Int)} (he : QQ.f k w = some r) (h0_w : Ro kU32 H v0_w w) : Ct Tryz.prog 113 ⟨[v0_w]⟩ H L (cR H L (QQ.out r)) := by
 refine XR (O := QQ.out r) ?_
 have hle : H.le H := .refl _
 have hh := QQ.ok k
 unfold QQ.f at he
 refine QP (args := [_]) fn_113 rfl nt_113 rfl <| wR rfl <| wA (.slice none 0 0) rfl rfl <| wE <| QU <| X3 <| w_sl 0 (v0_w) rfl <| w_sl 2 (.slice none 0 0) rfl <| hh.l0 hle he h0_w
noncomputable def Qt.C : Code := (Tryz.f144.body).getD .skip
abbrev Qt.out (r : (List Int)) (H : Hp) (v : Value) : Prop := Ro kU32 H v r
abbrev Qt.R (H0 : Hp) (L : Items) (r : (List Int)) := fR H0 L (Qt.out r)
structure Qt.Hs where
 l0 : (List Int) → (List Int) → Int → (List Int) → Int → Int → Option (List Int)
noncomputable def Qt.j1 (k : Nat) (h : Qt.Hs) (a b : List Int) : Option (List Int) := if 0 ≤ 0 ∧ 0 ≤ w64 ((a.length : Int) + 1) ∧ w64 ((a.length : Int) + 1) ≤ 70368744177664 then (h.l0 b (List.replicate (0 : Int).toNat (0 : Int)) 0 a (a.length : Int) 0) else none
noncomputable def Qt.j3 (k : Nat) (h : Qt.Hs) (b out : List Int) (carry s : Int) (t21 : List Int) (t22 t23 : Int) : Option (List Int) := if out.length + 1 ≤ 35184372088704 then (h.l0 b (out ++ [(s) % 4294967296]) (s / 4294967296) t21 t22 (w64 (t23 + 1))) else none
noncomputable def Qt.b0 (k : Nat) (h : Qt.Hs) (b out : List Int) (carry : Int) (t21 : List Int) (t22 t23 : Int) : Option (List Int) := if t23 < t22 then (if (0 : Int) ≤ t23 ∧ t23 < (t21.length : Int) then (if t23 < (b.length : Int) then (if (0 : Int) ≤ t23 ∧ t23 < (b.length : Int) then (Qt.j3 k h b out carry ((((((rd t21 t23) % 18446744073709551616) + carry) % 18446744073709551616) + ((rd b t23) % 18446744073709551616)) % 18446744073709551616) t21 t22 t23) else none) else (Qt.j3 k h b out carry ((((rd t21 t23) % 18446744073709551616) + carry) % 18446744073709551616) t21 t22 t23)) else none) else (if out.length + 1 ≤ 35184372088704 then (some (out ++ [(carry) % 4294967296])) else none)
noncomputable def Qt.hs : Nat → Qt.Hs
 | 0 => ⟨fun _ _ _ _ _ _ => none⟩
 | k + 1 => ⟨fun x0 x1 x2 x3 x4 x5 => Qt.b0 k (Qt.hs k) x0 x1 x2 x3 x4 x5⟩
noncomputable def Qt.f (k : Nat) (a b : List Int) : Option (List Int) := (fun h : Qt.Hs => if (a.length : Int) < (b.length : Int) then (Qt.j1 k h b a) else (Qt.j1 k h a b)) (Qt.hs k)
structure Qt.LE (h h' : Qt.Hs) : Prop where
 l0 : ∀ y0 y1 y2 y3 y4 y5, LeO (h.l0 y0 y1 y2 y3 y4 y5) (h'.l0 y0 y1 y2 y3 y4 y5)
theorem Qt.j1_mono {k : Nat} {h h' : Qt.Hs} (hl : Qt.LE h h') : ∀ y0 y1, LeO (Qt.j1 k h y0 y1) (Qt.j1 (k + 1) h' y0 y1) := fun _ _ => (LeO.ite (hl.l0 _ _ _ _ _ _) (LeO.refl _))
theorem Qt.j3_mono {k : Nat} {h h' : Qt.Hs} (hl : Qt.LE h h') : ∀ y0 y1 y2 y3 y4 y5 y6, LeO (Qt.j3 k h y0 y1 y2 y3 y4 y5 y6) (Qt.j3 (k + 1) h' y0 y1 y2 y3 y4 y5 y6) := fun _ _ _ _ _ _ _ => (LeO.ite (hl.l0 _ _ _ _ _ _) (LeO.refl _))
theorem Qt.b0_mono {k : Nat} {h h' : Qt.Hs} (hl : Qt.LE h h') : ∀ y0 y1 y2 y3 y4 y5, LeO (Qt.b0 k h y0 y1 y2 y3 y4 y5) (Qt.b0 (k + 1) h' y0 y1 y2 y3 y4 y5) := fun _ _ _ _ _ _ => (LeO.ite (LeO.ite (LeO.ite (LeO.ite (Qt.j3_mono (k := k) hl _ _ _ _ _ _ _) (LeO.refl _)) (Qt.j3_mono (k := k) hl _ _ _ _ _ _ _)) (LeO.refl _)) (LeO.ite (LeO.refl _) (LeO.refl _)))
theorem Qt.hs_mono : ∀ k, Qt.LE (Qt.hs k) (Qt.hs (k + 1))
 | 0 => ⟨fun _ _ _ _ _ _ => LeO.none _⟩
 | k + 1 => ⟨Qt.b0_mono (k := k) (Qt.hs_mono k)⟩
theorem Qt.mono : ∀ k y0 y1, LeO (Qt.f k y0 y1) (Qt.f (k + 1) y0 y1) := fun k _ _ => have hl := Qt.hs_mono k; by unfold Qt.f; exact (LeO.ite (Qt.j1_mono (k := k) hl _ _) (Qt.j1_mono (k := k) hl _ _))
noncomputable def Qt.Kj1 : List Item := .code (seqR (seqR Qt.C)) :: []
noncomputable def Qt.Kl0 : List Item := .code (lopB (blkB (seqR (seqL (seqR (seqR (seqR (seqR Qt.C)))))))) :: .inLoop (lopB (blkB (seqR (seqL (seqR (seqR (seqR (seqR Qt.C)))))))) :: .inBlock 0 :: .code (seqR (seqR (seqR (seqR (seqR Qt.C))))) :: []
noncomputable def Qt.Kj3 : List Item := .code (seqR (seqR (seqR (blkB (seqL (seqR (seqR (lopB (blkB (seqR (seqL (seqR (seqR (seqR (seqR Qt.C))))))))))))))) :: .inBlock 1 :: .code (seqR (seqR (seqR (lopB (blkB (seqR (seqL (seqR (seqR (seqR (seqR Qt.C))))))))))) :: .inLoop (lopB (blkB (seqR (seqL (seqR (seqR (seqR (seqR Qt.C)))))))) :: .inBlock 0 :: .code (seqR (seqR (seqR (seqR (seqR Qt.C))))) :: []
structure Qt.OK (h : Qt.Hs) : Prop where
 l0 : ∀ {H0 H : Hp} {L : Items} {r : (List Int)} {jk_ : Nat → Value} {b : List Int} {out : List Int} {carry : Int} {t21 : List Int} {t22 : Int} {t23 : Int} {v_b : Value} {v_out : Value} {v_t21 : Value} {i_out : Item'} (_ : H0.le H) (_he : h.l0 b out carry t21 t22 t23 = some r) (_h_b : Src kU32 H L v_b b) (_h_out : Sl kU32 H 167 i_out v_out out) (_h_t21 : Src kU32 H L v_t21 t21), Wp Tryz.prog 144 56 Qt.Kl0 (upd (upd (upd (upd (upd (upd (upd jk_ 1 (v_b)) 4 (.slice none 0 0)) 5 (v_out)) 6 (.int .u64 carry)) 21 (v_t21)) 22 (.int .i64 t22)) 23 (.int .i64 t23)) H (i_out :: L) (Qt.R H0 L r)
theorem Qt.j1_ok {k : Nat} {h : Qt.Hs} (hh : Qt.OK h) {H0 H : Hp} {L : Items} {r : (List Int)} {jk_ : Nat → Value} {a b : List Int} {v_a v_b : Value} (hle : H0.le H) (he : Qt.j1 k h a b = some r) (h_a : Src kU32 H L v_a a) (h_b : Src kU32 H L v_b b) : Wp Tryz.prog 144 56 Qt.Kj1 (upd (upd (upd jk_ 0 (v_a)) 1 (v_b)) 4 (.slice none 0 0)) H (L) (Qt.R H0 L r) := by
 unfold Qt.j1 at he
 unfold Qt.Kj1
 refine wR rfl <| wM v_a rfl rfl <| w_d rfl (Xq Tryz.underlying22 rfl h_a) <| w_d rfl (Xt (c := w64 ((a.length : Int) + 1)) rfl rfl rfl) <| rK he fun c2 he => w_a rfl (o_make' (kd := kU32) (z0 := 0) Tryz.underlying22 ti167 (zp167 _) rfl rfl (by omega) (by omega) (by omega)) ?_
 rintro v3 _ _ ⟨i4, rfl, rfl, h5⟩
 refine wA v3 rfl rfl <| wQ rfl <| wA (.int .u64 0) rfl rfl <| wE <| wR rfl <| wM v_a rfl rfl <| w_d rfl (Xq Tryz.underlying22 rfl h_a.th) <| wM (.int .i64 0) rfl rfl ?_
 refine Qa <| QU <| X3 <| w_sl 1 (v_b) rfl <| w_sl 4 (.slice none 0 0) rfl <| w_sl 5 (v3) rfl <| w_sl 6 (.int .u64 0) rfl <| w_sl 21 (v_a) rfl <| w_sl 22 (.int .i64 (a.length : Int)) rfl <| w_sl 23 (.int .i64 0) rfl <| hh.l0 hle he h_b h5 h_a
theorem Qt.j3_ok {k : Nat} {h : Qt.Hs} (hh : Qt.OK h) {H0 H : Hp} {L : Items} {r : (List Int)} {jk_ : Nat → Value} {b out : List Int} {carry s : Int} {t21 : List Int} {t22 t23 : Int} {v_b v_out v_t21 : Value} {i_out : Item'} (hle : H0.le H) (he : Qt.j3 k h b out carry s t21 t22 t23 = some r) (h_b : Src kU32 H L v_b b) (h_out : Sl kU32 H 167 i_out v_out out) (h_t21 : Src kU32 H L v_t21 t21) : Wp Tryz.prog 144 56 Qt.Kj3 (upd (upd (upd (upd (upd (upd (upd (upd jk_ 1 (v_b)) 4 (.slice none 0 0)) 5 (v_out)) 6 (.int .u64 carry)) 9 (.int .u64 s)) 21 (v_t21)) 22 (.int .i64 t22)) 23 (.int .i64 t23)) H (i_out :: L) (Qt.R H0 L r) := by
 unfold Qt.j3 at he
 unfold Qt.Kj3
 refine wR rfl <| wM v_out rfl rfl <| wM (.int .u64 s) rfl rfl <| w_d rfl (XY (c := (s) % 4294967296) Tryz.underlying113 Tryz.underlying167 rfl rfl) <| w_a rfl (o_buildSlice' (kd := kU32) (css := [[.int .u32 ((s) % 4294967296)]]) (xs := [(s) % 4294967296]) (parts := [(0, .int .u32 ((s) % 4294967296))]) Tryz.underlying22 ti167 rfl ⟨_, _, rfl, rfl, rfl⟩ ⟨rfl, trivial⟩ rfl (by decide)) ?_
 rintro v20 _ _ ⟨i21, rfl, rfl, h22⟩
 refine rK he fun c23 he => w_a rfl (o_append' (kd := kU32) (F := fun z_ => i21 :: z_ :: L) Tryz.underlying22 Tryz.underlying22 ti167 rfl (by first | omega | (simp only [List.nil_append, List.length_cons, List.length_nil]; omega)) rfl rfl h_out (h22.src .here) (fun _ => .h1)) ?_
 rintro v24 _ _ ⟨i25, rfl, rfl, h26⟩
 refine wA v24 rfl rfl <| Qa <| QD rfl <| wM (.int .u64 s) rfl rfl <| w_d rfl (Y0 (c := s / 4294967296) rfl rfl (by decide) rfl) <| wA (.int .u64 (s / 4294967296)) rfl rfl <| Qa <| Xk <| QD rfl <| w_d rfl (Xt (c := w64 (t23 + 1)) rfl rfl rfl) <| wM (.int .i64 (w64 (t23 + 1))) rfl rfl <| Qa ?_
 refine Xy <| YD .here <| w_sl 1 (v_b) rfl <| w_sl 4 (.slice none 0 0) rfl <| w_sl 5 (v24) rfl <| w_sl 6 (.int .u64 (s / 4294967296)) rfl <| w_sl 21 (v_t21) rfl <| w_sl 22 (.int .i64 t22) rfl <| w_sl 23 (.int .i64 (w64 (t23 + 1))) rfl <| hh.l0 hle he h_b h26 h_t21
theorem Qt.b0_ok {k : Nat} {h : Qt.Hs} (hh : Qt.OK h) {H0 H : Hp} {L : Items} {r : (List Int)} {jk_ : Nat → Value} {b out : List Int} {carry : Int} {t21 : List Int} {t22 t23 : Int} {v_b v_out v_t21 : Value} {i_out : Item'} (hle : H0.le H) (he : Qt.b0 k h b out carry t21 t22 t23 = some r) (h_b : Src kU32 H L v_b b) (h_out : Sl kU32 H 167 i_out v_out out) (h_t21 : Src kU32 H L v_t21 t21) : Wp Tryz.prog 144 56 Qt.Kl0 (upd (upd (upd (upd (upd (upd (upd jk_ 1 (v_b)) 4 (.slice none 0 0)) 5 (v_out)) 6 (.int .u64 carry)) 21 (v_t21)) 22 (.int .i64 t22)) 23 (.int .i64 t23)) H (i_out :: L) (Qt.R H0 L r) := by
 unfold Qt.b0 at he
 unfold Qt.Kl0
 refine wR rfl <| w_d rfl (XG rfl rfl) <| wE ?_
 rcases its he with ⟨c6, he⟩ | ⟨c6, he⟩
 ·
  refine Qy rfl (dt c6) <| QA <| QV <| QU <| wR rfl <| wM (.int .i64 t23) rfl rfl <| rK he fun c7 he => w_d rfl (XM (sz := 1) Tryz.underlying22 sz167 rfl h_t21.th rfl c7) <| w_d rfl (XL ty167 rfl h_t21.th c7) <| wA (.int .i64 t23) rfl rfl <| wA (.int .u32 (rd t21 t23)) rfl rfl ?_
  refine wQ rfl <| wM (.int .u32 (rd t21 t23)) rfl rfl <| w_d rfl (XY (c := (rd t21 t23) % 18446744073709551616) Tryz.underlying167 Tryz.underlying113 rfl rfl) <| wM (.int .u64 carry) rfl rfl <| w_d rfl (Xt (c := (((rd t21 t23) % 18446744073709551616) + carry) % 18446744073709551616) rfl rfl rfl) <| wA (.int .u64 ((((rd t21 t23) % 18446744073709551616) + carry) % 18446744073709551616)) rfl rfl <| wE <| wR rfl ?_
  refine wM (.int .i64 t23) rfl rfl <| wM v_b rfl rfl <| w_d rfl (Xq Tryz.underlying22 rfl h_b.th) <| w_d rfl (XG rfl rfl) <| Qa ?_
  rcases its he with ⟨c8, he⟩ | ⟨c8, he⟩
  ·
   refine Qy rfl (dt c8) <| QD rfl <| wM (.int .u64 ((((rd t21 t23) % 18446744073709551616) + carry) % 18446744073709551616)) rfl rfl <| wM v_b rfl rfl <| wM (.int .i64 t23) rfl rfl <| rK he fun c9 he => w_d rfl (XM (sz := 1) Tryz.underlying22 sz167 rfl h_b.th rfl c9) <| w_d rfl (XL ty167 rfl h_b.th c9) <| w_d rfl (XY (c := (rd b t23) % 18446744073709551616) Tryz.underlying167 Tryz.underlying113 rfl rfl) <| w_d rfl (Xt (c := (((((rd t21 t23) % 18446744073709551616) + carry) % 18446744073709551616) + ((rd b t23) % 18446744073709551616)) % 18446744073709551616) rfl rfl rfl) <| wA (.int .u64 ((((((rd t21 t23) % 18446744073709551616) + carry) % 18446744073709551616) + ((rd b t23) % 18446744073709551616)) % 18446744073709551616)) rfl rfl <| Qa ?_
   refine w_sl 1 (v_b) rfl <| w_sl 4 (.slice none 0 0) rfl <| w_sl 5 (v_out) rfl <| w_sl 6 (.int .u64 carry) rfl <| w_sl 9 (.int .u64 ((((((rd t21 t23) % 18446744073709551616) + carry) % 18446744073709551616) + ((rd b t23) % 18446744073709551616)) % 18446744073709551616)) rfl <| w_sl 21 (v_t21) rfl <| w_sl 22 (.int .i64 t22) rfl <| w_sl 23 (.int .i64 t23) rfl <| Qt.j3_ok (k := k) hh hle he h_b h_out h_t21
  ·
   refine QB rfl (df c8) <| QA <| w_sl 1 (v_b) rfl <| w_sl 4 (.slice none 0 0) rfl <| w_sl 5 (v_out) rfl <| w_sl 6 (.int .u64 carry) rfl <| w_sl 9 (.int .u64 ((((rd t21 t23) % 18446744073709551616) + carry) % 18446744073709551616)) rfl <| w_sl 21 (v_t21) rfl <| w_sl 22 (.int .i64 t22) rfl <| w_sl 23 (.int .i64 t23) rfl <| Qt.j3_ok (k := k) hh hle he h_b h_out h_t21
 ·
  refine QB rfl (df c6) <| X1 rfl <| wR rfl <| wM v_out rfl rfl <| wM (.int .u64 carry) rfl rfl <| w_d rfl (XY (c := (carry) % 4294967296) Tryz.underlying113 Tryz.underlying167 rfl rfl) <| w_a rfl (o_buildSlice' (kd := kU32) (css := [[.int .u32 ((carry) % 4294967296)]]) (xs := [(carry) % 4294967296]) (parts := [(0, .int .u32 ((carry) % 4294967296))]) Tryz.underlying22 ti167 rfl ⟨_, _, rfl, rfl, rfl⟩ ⟨rfl, trivial⟩ rfl (by decide)) ?_
  rintro v10 _ _ ⟨i11, rfl, rfl, h12⟩
  refine rK he fun c13 he => w_a rfl (o_append' (kd := kU32) (F := fun z_ => i11 :: z_ :: L) Tryz.underlying22 Tryz.underlying22 ti167 rfl (by first | omega | (simp only [List.nil_append, List.length_cons, List.length_nil]; omega)) rfl rfl h_out (h12.src .here) (fun _ => .h1)) ?_
  rintro v14 _ _ ⟨i15, rfl, rfl, h16⟩
  refine wA v14 rfl rfl <| Qa <| Yv h16 .h1 ?_
  intro H17 e18 h19
  obtain rfl := sj he
  refine Qi fn_144 rs_144 (.tmp (v := v14) rfl .nil) <| ⟨⟨[_, _], rfl⟩, hle.trans e18, h19⟩
theorem Qt.ok : ∀ k, Qt.OK (Qt.hs k)
 | 0 => ⟨(by intros; exact nomatch (show none = some _ from by assumption))⟩
 | k + 1 => ⟨Qt.b0_ok (k := k) (Qt.ok k)⟩
theorem Qt.calls (k : Nat) {H : Hp} {L : Items} {a b : List Int} {v0_a v1_b : Value} {r : (List Int)} (he : Qt.f k a b = some r) (h0_a : Src kU32 H L v0_a a) (h1_b : Src kU32 H L v1_b b) : Ct Tryz.prog 144 ⟨[v0_a, v1_b]⟩ H L (cR H L (Qt.out r)) := by
 refine XR (O := Qt.out r) ?_
 have hle : H.le H := .refl _
 have hh := Qt.ok k
 unfold Qt.f at he
 refine QP (args := [_, _]) fn_144 rfl nt_144 rfl <| wR rfl <| wA (.slice none 0 0) rfl rfl <| wE <| wR rfl <| wM v0_a rfl rfl <| w_d rfl (Xq Tryz.underlying22 rfl h0_a) <| wM v1_b rfl rfl <| w_d rfl (Xq Tryz.underlying22 rfl h1_b) ?_
 refine w_d rfl (XG rfl rfl) <| Qa ?_
 rcases its he with ⟨c1, he⟩ | ⟨c1, he⟩
 ·
  refine Qy rfl (dt c1) <| QD rfl <| wM v1_b rfl rfl <| wM v0_a rfl rfl <| wA v1_b rfl rfl <| wA v0_a rfl rfl <| Qa <| w_sl 0 (v1_b) rfl <| w_sl 1 (v0_a) rfl <| w_sl 4 (.slice none 0 0) rfl <| Qt.j1_ok (k := k) hh hle he h1_b h0_a
 ·
  refine QB rfl (df c1) <| QA <| w_sl 0 (v0_a) rfl <| w_sl 1 (v1_b) rfl <| w_sl 4 (.slice none 0 0) rfl <| Qt.j1_ok (k := k) hh hle he h0_a h1_b
noncomputable def XF.C : Code := (Tryz.f115.body).getD .skip
def XF.out (r : Qq × (Option Int)) (H : Hp) (v : Value) : Prop := ∃ v0, v = .tuple ⟨[(Qc r.1 v0), errV 104 r.2]⟩ ∧ Ro kU32 H v0 r.1.f_w
theorem XF.out_mono (r : Qq × (Option Int)) {H H' : Hp} {v : Value} (hle : H.le H') (h : XF.out r H v) : XF.out r H' v := by
 obtain ⟨v0, rfl, h0⟩ := h; exact ⟨v0, rfl, h0.mono hle⟩
noncomputable def XF.f (k : Nat) (neg : Bool) (w : List Int) : Option (Qq × (Option Int)) := (QQ.f k w).bind fun y2 => if 128 < (y2.length : Int) then (some (⟨false, []⟩, some 12)) else (some (⟨neg && (decide (0 < (y2.length : Int))), y2⟩, none))
theorem XF.mono : ∀ k y0 y1, LeO (XF.f k y0 y1) (XF.f (k + 1) y0 y1) := fun k _ _ => by unfold XF.f; exact (LeO.bind (QQ.mono k _) fun _ => LeO.ite (LeO.refl _) (LeO.refl _))
theorem XF.calls (k : Nat) {H : Hp} {L : Items} {neg : Bool} {w : List Int} {v0_w : Value} {r : Qq × (Option Int)} (he : XF.f k neg w = some r) (h0_w : Ro kU32 H v0_w w) : Ct Tryz.prog 115 ⟨[.bool neg, v0_w]⟩ H L (cR H L (XF.out r)) := by
 refine XR (O := XF.out r) ?_
 have hle : H.le H := .refl _
 unfold XF.f at he
 refine QP (args := [_, _]) fn_115 rfl nt_115 rfl <| wR rfl <| wN zr24 rfl rfl fun b1 => wA (errV 104 none) rfl rfl <| wQ rfl <| wM v0_w rfl rfl <| bK he fun y2 hy3 he => w_a rfl (Qm co113 (vs := [v0_w]) rfl (QQ.calls k hy3 h0_w)) ?_
 rintro v6 H4 _ ⟨rfl, e5, h7⟩
 refine wA v6 rfl rfl <| wE <| wR rfl <| wM v6 rfl rfl <| w_d rfl (Xq Tryz.underlying22 rfl h7.src) <| w_d rfl (YR rfl rfl) <| Qa ?_
 rcases its he with ⟨c8, he⟩ | ⟨c8, he⟩
 ·
  refine Qy rfl (dt c8) <| wR rfl <| w_d rfl (XD (cs' := [.bool false, .slice none 0 0]) Tryz.underlying24 zr24 rfl (by kernel_rfl) (parts := []) rfl .nil) <| w_d rfl (YU (v := .int .i64 12) Tryz.underlying104 rfl rfl) <| wS (.agg ⟨[.bool false, .slice none 0 0]⟩) sz24 rfl rfl rfl rfl rfl (oc rfl (oc rfl oz)) .here u2 <| wA (errV 104 (some 12)) rfl rfl <| Qa ?_
  obtain rfl := sj he
  refine Qi fn_115 rs_115 (.box (v := .agg ⟨[.bool false, .slice none 0 0]⟩) rfl ty24 rfl rfl .here rfl (.tmp (v := errV 104 (some 12)) rfl .nil)) <| ⟨⟨[_], rfl⟩, hle.trans e5, ⟨.slice none 0 0, rfl, (Q9 _ _)⟩⟩
 ·
  refine QB rfl (df c8) <| QA <| wR rfl <| wM (.bool neg) rfl rfl <| wM (.bool neg) rfl rfl <| w_g (g := neg) rfl rfl rfl wn_t (fun g9 => QF (v := v6) rfl) <| w_g (g := neg) rfl rfl rfl wn_t (fun g10 => Xq Tryz.underlying22 (cvt g10) h7.src) <| w_g (g := neg) rfl rfl rfl wn_t (fun g11 => YR (cvt g11) rfl) <| w_d rfl (d_and' (b := neg) (p := (decide (0 < (y2.length : Int)))) rfl rfl rfl) <| wM v6 rfl rfl <| w_d rfl (XD (cs' := [.bool (neg && (decide (0 < (y2.length : Int)))), v6]) Tryz.underlying24 zr24 rfl (by kernel_rfl) (parts := [(0, .bool (neg && (decide (0 < (y2.length : Int))))), (1, v6)]) rfl (.cons (YC rfl sz4 rfl) rfl rfl u1 (.cons (YC rfl sz22 rfl) h7.cells rfl (.there u1) .nil))) ?_
  refine wS (.agg ⟨[.bool (neg && (decide (0 < (y2.length : Int)))), v6]⟩) sz24 rfl rfl rfl rfl rfl (oc rfl (oc (h7.one) oz)) .here u2 <| wA (errV 104 none) rfl rfl <| Qa ?_
  obtain rfl := sj he
  refine Qi fn_115 rs_115 (.box (v := .agg ⟨[.bool (neg && (decide (0 < (y2.length : Int)))), v6]⟩) rfl ty24 rfl rfl .here rfl (.tmp (v := errV 104 none) rfl .nil)) <| ⟨⟨[_], rfl⟩, hle.trans e5, ⟨v6, rfl, h7⟩⟩
noncomputable def QY.C : Code := (Tryz.f134.body).getD .skip
def QY.out (r : Qq × (Option Int)) (H : Hp) (v : Value) : Prop := ∃ v0, v = .tuple ⟨[(Qc r.1 v0), errV 104 r.2]⟩ ∧ Ro kU32 H v0 r.1.f_w
abbrev QY.R (H0 : Hp) (L : Items) (r : Qq × (Option Int)) := fR H0 L (QY.out r)
structure QY.Hs where
 l0 : Bool → (List Int) → (List Int) → Int → Int → Option (Qq × (Option Int))
noncomputable def QY.j1 (k : Nat) (h : QY.Hs) (t : ByteArray) (neg : Bool) : Option (Qq × (Option Int)) := (Xf.f k t).bind fun y8 => if ((!y8) || (neg && (decide (t = str_2)))) = true then (some (⟨false, []⟩, some 3)) else (h.l0 neg [] (bytesOf t) ((bytesOf t).length : Int) 0)
noncomputable def QY.b0 (k : Nat) (h : QY.Hs) (neg : Bool) (w t34 : List Int) (t35 t36 : Int) : Option (Qq × (Option Int)) := if t36 < t35 then (if (0 : Int) ≤ t36 ∧ t36 < (t34.length : Int) then ((Qz.f k w [10]).bind fun y27 => (QQ.f k [(((rd t34 t36) - 48) % 256) % 4294967296]).bind fun y39 => (Qt.f k y27 y39).bind fun y45 => (QQ.f k y45).bind fun y51 => h.l0 neg y51 t34 t35 (w64 (t36 + 1))) else none) else ((XF.f k neg w).bind fun y57 => some (y57.1, y57.2))
noncomputable def QY.hs : Nat → QY.Hs
 | 0 => ⟨fun _ _ _ _ _ => none⟩
 | k + 1 => ⟨fun x0 x1 x2 x3 x4 => QY.b0 k (QY.hs k) x0 x1 x2 x3 x4⟩
noncomputable def QY.f (k : Nat) (s : ByteArray) : Option (Qq × (Option Int)) := (fun h : QY.Hs => if (decide (1 < (s.size : Int))) = true → (0 : Int) ≤ 0 ∧ 0 < (s.size : Int) then (if ((decide (1 < (s.size : Int))) && (decide ((bt s 0) = 45))) = true then (if (0 : Int) ≤ 1 ∧ (1 : Int) ≤ (s.size : Int) ∧ (s.size : Int) ≤ (s.size : Int) then (QY.j1 k h (scut s 1 (s.size : Int)) ((decide (1 < (s.size : Int))) && (decide ((bt s 0) = 45)))) else none) else (QY.j1 k h s ((decide (1 < (s.size : Int))) && (decide ((bt s 0) = 45))))) else none) (QY.hs k)
noncomputable def QY.Kj1 : List Item := .code (seqR (seqR (seqR (seqR QY.C)))) :: []
noncomputable def QY.Kl0 : List Item := .code (lopB (blkB (seqR (seqL (seqR (seqR (seqR (seqR (seqR (seqR QY.C)))))))))) :: .inLoop (lopB (blkB (seqR (seqL (seqR (seqR (seqR (seqR (seqR (seqR QY.C)))))))))) :: .inBlock 0 :: .code (seqR (seqR (seqR (seqR (seqR (seqR (seqR QY.C))))))) :: []
structure QY.OK (h : QY.Hs) : Prop where
 l0 : ∀ {H0 H : Hp} {L : Items} {r : Qq × (Option Int)} {jk_ : Nat → Value} {neg : Bool} {w : List Int} {t34 : List Int} {t35 : Int} {t36 : Int} {v_w : Value} {v_t34 : Value} {b_t2 : Nat} (_ : H0.le H) (_he : h.l0 neg w t34 t35 t36 = some r) (_h_w : Ro kU32 H v_w w) (_h_t34 : Ro kU8 H v_t34 t34), Wp Tryz.prog 134 56 QY.Kl0 (upd (upd (upd (upd (upd (upd (upd jk_ 2 (pt b_t2)) 3 (errV 104 none)) 5 (.bool neg)) 6 (v_w)) 34 (v_t34)) 35 (.int .i64 t35)) 36 (.int .i64 t36)) H (bx b_t2 [.bool false, .slice none 0 0] 24 :: L) (QY.R H0 L r)
theorem QY.j1_ok {k : Nat} {h : QY.Hs} (hh : QY.OK h) {H0 H : Hp} {L : Items} {r : Qq × (Option Int)} {jk_ : Nat → Value} {t : ByteArray} {neg : Bool} {b_t2 : Nat} (hle : H0.le H) (he : QY.j1 k h t neg = some r) : Wp Tryz.prog 134 56 QY.Kj1 (upd (upd (upd (upd jk_ 2 (pt b_t2)) 3 (errV 104 none)) 4 (.string t)) 5 (.bool neg)) H (bx b_t2 [.bool false, .slice none 0 0] 24 :: L) (QY.R H0 L r) := by
 unfold QY.j1 at he
 unfold QY.Kj1
 refine QV <| wR rfl <| wM (.string t) rfl rfl <| bK he fun y8 hy9 he => w_d rfl (Xs (Qm co147 (vs := [.string t]) rfl (Xf.calls k hy9))) <| w_d rfl (Zz (b := y8) rfl) <| wM (.bool (!y8)) rfl rfl <| w_g (g := !(!y8)) rfl rfl rfl wn_f (fun g12 => QF (v := .bool neg) rfl) <| w_g (g := !(!y8)) rfl rfl rfl wn_f (fun g13 => QF (v := .bool neg) (cvt g13)) <| w_g (g := (!(!y8)) && neg) rfl rfl rfl Jt (fun g14 => QF (v := .string t) rfl) <| w_g (g := (!(!y8)) && neg) rfl rfl rfl Jt (fun g15 => Ud (cvt g15) rfl) ?_
 refine w_g (g := !(!y8)) rfl rfl rfl wn_f (fun g16 => d_and' (b := neg) (p := (decide (t = str_2))) (cvt g16) (cva g16) rfl) <| w_d rfl (d_or' (b := (!y8)) (p := (neg && (decide (t = str_2)))) rfl rfl rfl) <| Qa ?_
 rcases its he with ⟨c17, he⟩ | ⟨c17, he⟩
 ·
  refine Qy rfl c17 <| wR rfl <| w_d rfl (XD (cs' := [.bool false, .slice none 0 0]) Tryz.underlying24 zr24 rfl (by kernel_rfl) (parts := []) rfl .nil) <| w_d rfl (YU (v := .int .i64 3) Tryz.underlying104 rfl rfl) <| wS (.agg ⟨[.bool false, .slice none 0 0]⟩) sz24 rfl rfl rfl rfl rfl (oc rfl (oc rfl oz)) .here u2 <| wA (errV 104 (some 3)) rfl rfl <| Qa ?_
  obtain rfl := sj he
  refine Qi fn_134 rs_134 (.box (v := .agg ⟨[.bool false, .slice none 0 0]⟩) rfl ty24 rfl rfl .here rfl (.tmp (v := errV 104 (some 3)) rfl .nil)) <| ⟨⟨[_], rfl⟩, hle, ⟨.slice none 0 0, rfl, (Q9 _ _)⟩⟩
 ·
  refine QB rfl (Bool.eq_false_iff.2 c17) <| QA <| wR rfl <| wA (.slice none 0 0) rfl rfl <| wE <| wR rfl <| wM (.string t) rfl rfl <| w_a rfl (OR Tryz.underlying9 Tryz.underlying52 Tryz.underlying5 rfl) ?_
  rintro v18 H19 _ ⟨rfl, e20, h21⟩
  refine w_d rfl (Xq Tryz.underlying52 rfl h21.src) <| wM (.int .i64 0) rfl rfl <| Qa <| QU <| X3 <| w_sl 2 (pt b_t2) rfl <| w_sl 3 (errV 104 none) rfl <| w_sl 5 (.bool neg) rfl <| w_sl 6 (.slice none 0 0) rfl <| w_sl 34 (v18) rfl <| w_sl 35 (.int .i64 ((bytesOf t).length : Int)) rfl <| w_sl 36 (.int .i64 0) rfl <| hh.l0 (hle.trans e20) he (Q9 _ _) h21
theorem QY.b0_ok {k : Nat} {h : QY.Hs} (hh : QY.OK h) {H0 H : Hp} {L : Items} {r : Qq × (Option Int)} {jk_ : Nat → Value} {neg : Bool} {w t34 : List Int} {t35 t36 : Int} {v_w v_t34 : Value} {b_t2 : Nat} (hle : H0.le H) (he : QY.b0 k h neg w t34 t35 t36 = some r) (h_w : Ro kU32 H v_w w) (h_t34 : Ro kU8 H v_t34 t34) : Wp Tryz.prog 134 56 QY.Kl0 (upd (upd (upd (upd (upd (upd (upd jk_ 2 (pt b_t2)) 3 (errV 104 none)) 5 (.bool neg)) 6 (v_w)) 34 (v_t34)) 35 (.int .i64 t35)) 36 (.int .i64 t36)) H (bx b_t2 [.bool false, .slice none 0 0] 24 :: L) (QY.R H0 L r) := by
 unfold QY.b0 at he
 unfold QY.Kl0
 refine wR rfl <| w_d rfl (XG rfl rfl) <| wE ?_
 rcases its he with ⟨c22, he⟩ | ⟨c22, he⟩
 ·
  refine Qy rfl (dt c22) <| QA <| QV <| QU <| wR rfl <| rK he fun c23 he => w_d rfl (XM (sz := 1) Tryz.underlying52 sz5 rfl h_t34.src rfl c23) <| w_d rfl (XL ty5 rfl h_t34.src c23) <| wA (.int .u8 (rd t34 t36)) rfl rfl <| Qa <| QD rfl ?_
  refine wM v_w rfl rfl <| w_a rfl (o_buildSlice' (kd := kU32) (css := [[.int .u32 10]]) (xs := [10]) (parts := [(0, .int .u32 10)]) Tryz.underlying22 ti167 rfl ⟨_, _, rfl, rfl, rfl⟩ ⟨rfl, trivial⟩ rfl (by decide)) ?_
  rintro v24 _ _ ⟨i25, rfl, rfl, h26⟩
  refine bK he fun y27 hy28 he => w_a rfl (Qm co145 (vs := [v_w, v24]) rfl (Qz.calls k hy28 h_w.src (h26.src .here))) ?_
  rintro v31 H29 _ ⟨rfl, e30, h32⟩
  refine wM (.int .u8 (rd t34 t36)) rfl rfl <| w_d rfl (Ys (c := ((rd t34 t36) - 48) % 256) rfl rfl rfl) <| w_d rfl (XY (c := (((rd t34 t36) - 48) % 256) % 4294967296) Tryz.underlying5 Tryz.underlying167 rfl rfl) <| w_a rfl (o_buildSlice' (kd := kU32) (css := [[.int .u32 ((((rd t34 t36) - 48) % 256) % 4294967296)]]) (xs := [(((rd t34 t36) - 48) % 256) % 4294967296]) (parts := [(0, .int .u32 ((((rd t34 t36) - 48) % 256) % 4294967296))]) Tryz.underlying22 ti167 rfl ⟨_, _, rfl, rfl, rfl⟩ ⟨rfl, trivial⟩ rfl (by decide)) ?_
  rintro v33 _ _ ⟨i34, rfl, rfl, h35⟩
  refine Yv h35 .here ?_
  intro H36 e37 h38
  refine bK he fun y39 hy40 he => w_a rfl (Qm co113 (vs := [v33]) rfl (QQ.calls k hy40 h38)) ?_
  rintro v43 H41 _ ⟨rfl, e42, h44⟩
  refine bK he fun y45 hy46 he => w_a rfl (Qm co144 (vs := [v31, v43]) rfl (Qt.calls k hy46 ((h32.mono (e37.trans e42)).src) h44.src)) ?_
  rintro v49 H47 _ ⟨rfl, e48, h50⟩
  refine bK he fun y51 hy52 he => w_a rfl (Qm co113 (vs := [v49]) rfl (QQ.calls k hy52 h50)) ?_
  rintro v55 H53 _ ⟨rfl, e54, h56⟩
  refine wA v55 rfl rfl <| Qa <| Xk <| QD rfl <| w_d rfl (Xt (c := w64 (t36 + 1)) rfl rfl rfl) <| wM (.int .i64 (w64 (t36 + 1))) rfl rfl <| Qa <| Xy <| YD .h1 <| YD .here <| w_sl 2 (pt b_t2) rfl <| w_sl 3 (errV 104 none) rfl ?_
  refine w_sl 5 (.bool neg) rfl <| w_sl 6 (v55) rfl <| w_sl 34 (v_t34) rfl <| w_sl 35 (.int .i64 t35) rfl <| w_sl 36 (.int .i64 (w64 (t36 + 1))) rfl <| hh.l0 (hle.trans ((((e30.trans e37).trans e42).trans e48).trans e54)) he h56 (h_t34.mono ((((e30.trans e37).trans e42).trans e48).trans e54))
 ·
  refine QB rfl (df c22) <| X1 rfl <| wR rfl <| wM (.bool neg) rfl rfl <| wM v_w rfl rfl <| bK he fun y57 hy58 he => w_a rfl (Qm co115 (vs := [.bool neg, v_w]) rfl (XF.calls k hy58 h_w)) ?_
  rintro _ H59 _ ⟨rfl, e60, v61, rfl, h62⟩
  refine w_d rfl (QO rfl rfl) <| w_d rfl (QO rfl rfl) <| wS (Qc y57.1 v61) sz24 rfl rfl rfl rfl rfl (XC h62) .here u2 <| wA (errV 104 y57.2) rfl rfl <| Qa ?_
  obtain rfl := sj he
  refine Qi fn_134 rs_134 (.box (v := (Qc y57.1 v61)) rfl ty24 rfl rfl .here rfl (.tmp (v := errV 104 y57.2) rfl .nil)) <| ⟨⟨[_], rfl⟩, hle.trans e60, ⟨v61, rfl, h62⟩⟩
theorem QY.ok : ∀ k, QY.OK (QY.hs k)
 | 0 => ⟨(by intros; exact nomatch (show none = some _ from by assumption))⟩
 | k + 1 => ⟨QY.b0_ok (k := k) (QY.ok k)⟩
theorem QY.calls (k : Nat) {H : Hp} {L : Items} {s : ByteArray} {r : Qq × (Option Int)} (he : QY.f k s = some r) : Ct Tryz.prog 134 ⟨[.string s]⟩ H L (cR H L (QY.out r)) := by
 refine XR (O := QY.out r) ?_
 have hle : H.le H := .refl _
 have hh := QY.ok k
 unfold QY.f at he
 refine QP (args := [_]) fn_134 rfl nt_134 rfl <| wR rfl <| wN zr24 rfl rfl fun b1 => wA (errV 104 none) rfl rfl <| wQ rfl <| wM (.string s) rfl rfl <| wA (.string s) rfl rfl <| wE ?_
 refine QD rfl <| wM (.string s) rfl rfl <| w_d rfl (Mm Tryz.underlying9 rfl) <| w_d rfl (YR rfl rfl) <| wM (.bool (decide (1 < (s.size : Int)))) rfl rfl <| w_g (g := decide (1 < (s.size : Int))) rfl rfl rfl wn_t (fun g2 => QF (v := .string s) rfl) <| rK he fun c4 he => w_g (g := decide (1 < (s.size : Int))) rfl rfl rfl wn_t (fun g3 => d_bt Tryz.underlying9 (cvt g3) rfl (c4 g3)) <| w_g (g := decide (1 < (s.size : Int))) rfl rfl rfl wn_t (fun g5 => Y1 (cvt g5) rfl) <| w_d rfl (d_and' (b := (decide (1 < (s.size : Int)))) (p := (decide ((bt s 0) = 45))) rfl rfl rfl) <| wA (.bool ((decide (1 < (s.size : Int))) && (decide ((bt s 0) = 45)))) rfl rfl <| Qa ?_
 refine QV <| wR rfl <| wM (.bool ((decide (1 < (s.size : Int))) && (decide ((bt s 0) = 45)))) rfl rfl <| Qa ?_
 rcases its he with ⟨c6, he⟩ | ⟨c6, he⟩
 ·
  refine Qy rfl c6 <| QD rfl <| wM (.string s) rfl rfl <| rK he fun c7 he => w_d rfl (UW Tryz.underlying9 rfl (.inr ⟨_, _, rfl, rfl⟩) (.inl ⟨rfl, rfl⟩) c7) <| wA (.string (scut s 1 (s.size : Int))) rfl rfl <| Qa <| w_sl 2 (pt b1) rfl <| w_sl 3 (errV 104 none) rfl <| w_sl 4 (.string (scut s 1 (s.size : Int))) rfl <| w_sl 5 (.bool ((decide (1 < (s.size : Int))) && (decide ((bt s 0) = 45)))) rfl <| QY.j1_ok (k := k) hh hle he
 ·
  refine QB rfl (Bool.eq_false_iff.2 c6) <| QA <| w_sl 2 (pt b1) rfl <| w_sl 3 (errV 104 none) rfl <| w_sl 4 (.string s) rfl <| w_sl 5 (.bool ((decide (1 < (s.size : Int))) && (decide ((bt s 0) = 45)))) rfl <| QY.j1_ok (k := k) hh hle he
noncomputable def XI.C : Code := (Tryz.f97.body).getD .skip
def XI.out (r : Qq) (H : Hp) (v : Value) : Prop := ∃ v0, v = (Qc r v0) ∧ Ro kU32 H v0 r.f_w
theorem XI.out_mono (r : Qq) {H H' : Hp} {v : Value} (hle : H.le H') (h : XI.out r H v) : XI.out r H' v := by
 obtain ⟨v0, rfl, h0⟩ := h; exact ⟨v0, rfl, h0.mono hle⟩
noncomputable def XI.f (k : Nat) (a : Qg) : Option Qq := (Qr.f k a).bind fun y3 => (QY.f k y3).bind fun y7 => some (y7.1)
theorem XI.calls (k : Nat) {H : Hp} {L : Items} {a : Qg} {v0_a : Value} {r : Qq} (he : XI.f k a = some r) (h0_a : Ro kI64 H v0_a a.f_D) : Ct Tryz.prog 97 ⟨[(Qf a v0_a)]⟩ H L (cR H L (XI.out r)) := by
 refine XR (O := XI.out r) ?_
 have hle : H.le H := .refl _
 unfold XI.f at he
 refine QP (args := [_]) fn_97 rfl nt_97 rfl <| wR rfl <| wB (Qf a v0_a) rfl rfl rfl <| fun b1 => wN zr24 rfl rfl fun b2 => wQ rfl <| wL (Qf a v0_a) ty37 rfl rfl .h1 rfl rfl <| bK he fun y3 hy4 he => w_d rfl (Xs (Qm co99 (vs := [(Qf a v0_a)]) rfl (Qr.calls k (a := a) hy4 h0_a))) <| bK he fun y7 hy8 he => ?_
 refine w_a rfl (Qm co134 (vs := [.string y3]) rfl (QY.calls k hy8)) ?_
 rintro _ H9 _ ⟨rfl, e10, v11, rfl, h12⟩
 refine wM (.tuple ⟨[(Qc y7.1 v11), errV 104 y7.2]⟩) rfl rfl <| w_d rfl (QO rfl rfl) <| w_d rfl (QO rfl rfl) <| wN zr24 rfl rfl fun b13 => wS (Qc y7.1 v11) sz24 rfl rfl rfl rfl rfl (XC h12) .here u2 <| wA (errV 104 y7.2) rfl rfl <| wQ rfl <| wL (Qc y7.1 v11) ty24 rfl rfl .here rfl rfl <| wS (Qc y7.1 v11) sz24 rfl rfl rfl rfl rfl (XC h12) .h1 u2 <| Qa ?_
 obtain rfl := sj he
 refine Qi fn_97 rs_97 (.box (v := (Qc y7.1 v11)) rfl ty24 rfl rfl .h1 rfl .nil) <| ⟨⟨[_, _, _], rfl⟩, hle.trans e10, ⟨v11, rfl, h12⟩⟩
noncomputable def Xl.C : Code := (Tryz.f84.body).getD .skip
def Xl.out (r : Int) (H : Hp) (v : Value) : Prop := v = .int .i64 r
noncomputable def Xl.f (k : Nat) (a : Qq) : Option Int := if (a.f_w.length : Int) = 0 then (some (0)) else (if a.f_neg = true then (some ((-1))) else (some (1)))
theorem Xl.mono : ∀ k y0, LeO (Xl.f k y0) (Xl.f (k + 1) y0) := fun k _ => by unfold Xl.f; exact (LeO.ite (LeO.refl _) (LeO.ite (LeO.refl _) (LeO.refl _)))
theorem Xl.calls (k : Nat) {H : Hp} {L : Items} {a : Qq} {v0_a : Value} {r : Int} (he : Xl.f k a = some r) (h0_a : Ro kU32 H v0_a a.f_w) : Ct Tryz.prog 84 ⟨[(Qc a v0_a)]⟩ H L (fun v H' L' => L = L' ∧ H = H' ∧ v = .int .i64 r) := by
 refine X6 (O := Xl.out r) (fun _ _ h => h) ?_
 have hle : H.le H := .refl _
 unfold Xl.f at he
 refine QP (args := [_]) fn_84 rfl nt_84 rfl <| wR rfl <| wB (Qc a v0_a) rfl rfl rfl <| fun b1 => wA (.int .i64 0) rfl rfl <| wE <| QU <| wR rfl <| w_d rfl (Xe (o' := 1) Tryz.underlying24 rfl sz22 rfl rfl rfl) <| wL v0_a ty22 rfl rfl .here rfl rfl ?_
 refine w_d rfl (Xq Tryz.underlying22 rfl h0_a.src) <| w_d rfl (Y1 rfl rfl) <| wA (.bool (decide ((a.f_w.length : Int) = 0))) rfl rfl <| Qa ?_
 rcases its he with ⟨c2, he⟩ | ⟨c2, he⟩
 ·
  refine Qy rfl (dt c2) <| wR rfl <| wA (.int .i64 0) rfl rfl <| Qa ?_
  obtain rfl := sj he
  refine Qi fn_84 rs_84 (.tmp (v := .int .i64 0) rfl .nil) <| ⟨⟨[_], rfl⟩, hle, rfl⟩
 ·
  refine QB rfl (df c2) <| wR rfl <| w_d rfl (Xe (o' := 0) Tryz.underlying24 rfl sz4 rfl rfl rfl) <| wL (.bool a.f_neg) ty4 rfl rfl .here rfl rfl <| wA (.bool a.f_neg) rfl rfl <| Qa ?_
  rcases its he with ⟨c3, he⟩ | ⟨c3, he⟩
  ·
   refine Qy rfl c3 <| wR rfl <| wA (.int .i64 (-1)) rfl rfl <| Qa ?_
   obtain rfl := sj he
   refine Qi fn_84 rs_84 (.tmp (v := .int .i64 (-1)) rfl .nil) <| ⟨⟨[_], rfl⟩, hle, rfl⟩
  ·
   refine QB rfl (Bool.eq_false_iff.2 c3) <| QA <| Xk <| wR rfl <| wA (.int .i64 1) rfl rfl <| Qa ?_
   obtain rfl := sj he
   refine Qi fn_84 rs_84 (.tmp (v := .int .i64 1) rfl .nil) <| ⟨⟨[_], rfl⟩, hle, rfl⟩
noncomputable def Xr.C : Code := (Tryz.f121.body).getD .skip
def Xr.out (r : Qq) (H : Hp) (v : Value) : Prop := ∃ v0, v = (Qc r v0) ∧ Ro kU32 H v0 r.f_w
theorem Xr.out_mono (r : Qq) {H H' : Hp} {v : Value} (hle : H.le H') (h : Xr.out r H v) : Xr.out r H' v := by
 obtain ⟨v0, rfl, h0⟩ := h; exact ⟨v0, rfl, h0.mono hle⟩
noncomputable def Xr.f (k : Nat) (a : Qq) : Option Qq := some (⟨(!a.f_neg) && (decide (0 < (a.f_w.length : Int))), a.f_w⟩)
theorem Xr.mono : ∀ k y0, LeO (Xr.f k y0) (Xr.f (k + 1) y0) := fun k _ => by unfold Xr.f; exact (LeO.refl _)
theorem Xr.calls (k : Nat) {H : Hp} {L : Items} {a : Qq} {v0_a : Value} {r : Qq} (he : Xr.f k a = some r) (h0_a : Ro kU32 H v0_a a.f_w) : Ct Tryz.prog 121 ⟨[(Qc a v0_a)]⟩ H L (cR H L (Xr.out r)) := by
 refine XR (O := Xr.out r) ?_
 have hle : H.le H := .refl _
 unfold Xr.f at he
 refine QP (args := [_]) fn_121 rfl nt_121 rfl <| wR rfl <| wB (Qc a v0_a) rfl rfl rfl <| fun b1 => wN zr24 rfl rfl fun b2 => wQ rfl <| w_d rfl (Xe (o' := 0) Tryz.underlying24 rfl sz4 rfl rfl rfl) <| wL (.bool a.f_neg) ty4 rfl rfl .h1 rfl rfl <| w_d rfl (Zz (b := a.f_neg) rfl) <| wM (.bool (!a.f_neg)) rfl rfl ?_
 refine w_g (g := !a.f_neg) rfl rfl rfl wn_t (fun g3 => Xe (o' := 1) Tryz.underlying24 rfl sz22 rfl rfl rfl) <| w_g (g := !a.f_neg) rfl rfl rfl wn_t (fun g4 => QS (v := v0_a) ty22 (cvt g4) .h1 rfl rfl rfl rfl) <| w_g (g := !a.f_neg) rfl rfl rfl wn_t (fun g5 => Xq Tryz.underlying22 (cvt g5) h0_a.src) <| w_g (g := !a.f_neg) rfl rfl rfl wn_t (fun g6 => YR (cvt g6) rfl) <| w_d rfl (d_and' (b := (!a.f_neg)) (p := (decide (0 < (a.f_w.length : Int)))) rfl rfl rfl) <| w_d rfl (Xe (o' := 1) Tryz.underlying24 rfl sz22 rfl rfl rfl) <| wL v0_a ty22 rfl rfl .h1 rfl rfl <| w_d rfl (XD (cs' := [.bool ((!a.f_neg) && (decide (0 < (a.f_w.length : Int)))), v0_a]) Tryz.underlying24 zr24 rfl (by kernel_rfl) (parts := [(0, .bool ((!a.f_neg) && (decide (0 < (a.f_w.length : Int))))), (1, v0_a)]) rfl (.cons (YC rfl sz4 rfl) rfl rfl u1 (.cons (YC rfl sz22 rfl) h0_a.cells rfl (.there u1) .nil))) <| wS (.agg ⟨[.bool ((!a.f_neg) && (decide (0 < (a.f_w.length : Int)))), v0_a]⟩) sz24 rfl rfl rfl rfl rfl (oc rfl (oc (h0_a.one) oz)) .here u2 <| Qa ?_
 obtain rfl := sj he
 refine Qi fn_121 rs_121 (.box (v := .agg ⟨[.bool ((!a.f_neg) && (decide (0 < (a.f_w.length : Int)))), v0_a]⟩) rfl ty24 rfl rfl .here rfl .nil) <| ⟨⟨[_, _], rfl⟩, hle, ⟨v0_a, rfl, h0_a⟩⟩
noncomputable def Yx.C : Code := (Tryz.f123.body).getD .skip
def Yx.out (r : Qq) (H : Hp) (v : Value) : Prop := ∃ v0, v = (Qc r v0) ∧ Ro kU32 H v0 r.f_w
theorem Yx.out_mono (r : Qq) {H H' : Hp} {v : Value} (hle : H.le H') (h : Yx.out r H v) : Yx.out r H' v := by
 obtain ⟨v0, rfl, h0⟩ := h; exact ⟨v0, rfl, h0.mono hle⟩
noncomputable def Yx.f (k : Nat) (a : Qq) : Option Qq := (Xl.f k a).bind fun y3 => if y3 < 0 then ((Xr.f k a).bind fun y8 => some (y8)) else (some (a))
theorem Yx.mono : ∀ k y0, LeO (Yx.f k y0) (Yx.f (k + 1) y0) := fun k _ => by unfold Yx.f; exact (LeO.bind (Xl.mono k _) fun _ => LeO.ite (LeO.bind (Xr.mono k _) fun _ => LeO.refl _) (LeO.refl _))
theorem Yx.calls (k : Nat) {H : Hp} {L : Items} {a : Qq} {v0_a : Value} {r : Qq} (he : Yx.f k a = some r) (h0_a : Ro kU32 H v0_a a.f_w) : Ct Tryz.prog 123 ⟨[(Qc a v0_a)]⟩ H L (cR H L (Yx.out r)) := by
 refine XR (O := Yx.out r) ?_
 have hle : H.le H := .refl _
 unfold Yx.f at he
 refine QP (args := [_]) fn_123 rfl nt_123 rfl <| wR rfl <| wB (Qc a v0_a) rfl rfl rfl <| fun b1 => wN zr24 rfl rfl fun b2 => wE <| wR rfl <| wL (Qc a v0_a) ty24 rfl rfl .h1 rfl rfl <| bK he fun y3 hy4 he => w_d rfl (Xs (Qm co84 (vs := [(Qc a v0_a)]) rfl (Xl.calls k (a := a) hy4 h0_a))) ?_
 refine w_d rfl (XG rfl rfl) <| Qa ?_
 rcases its he with ⟨c7, he⟩ | ⟨c7, he⟩
 ·
  refine Qy rfl (dt c7) <| wR rfl <| wL (Qc a v0_a) ty24 rfl rfl .h1 rfl rfl <| bK he fun y8 hy9 he => w_a rfl (Qm co121 (vs := [(Qc a v0_a)]) rfl (Xr.calls k (a := a) hy9 h0_a)) ?_
  rintro _ H10 _ ⟨rfl, e11, v12, rfl, h13⟩
  refine wS (Qc y8 v12) sz24 rfl rfl rfl rfl rfl (XC h13) .here u2 <| Qa ?_
  obtain rfl := sj he
  refine Qi fn_123 rs_123 (.box (v := (Qc y8 v12)) rfl ty24 rfl rfl .here rfl .nil) <| ⟨⟨[_, _], rfl⟩, hle.trans e11, ⟨v12, rfl, h13⟩⟩
 ·
  refine QB rfl (df c7) <| QA <| wR rfl <| wL (Qc a v0_a) ty24 rfl rfl .h1 rfl rfl <| wS (Qc a v0_a) sz24 rfl rfl rfl rfl rfl (XC h0_a) .here u2 <| Qa ?_
  obtain rfl := sj he
  refine Qi fn_123 rs_123 (.box (v := (Qc a v0_a)) rfl ty24 rfl rfl .here rfl .nil) <| ⟨⟨[_, _], rfl⟩, hle, ⟨v0_a, rfl, h0_a⟩⟩
noncomputable def Yp.C : Code := (Tryz.f153.body).getD .skip
def Yp.out (r : Bool) (H : Hp) (v : Value) : Prop := v = .bool r
noncomputable def Yp.f (k : Nat) (x : Int) : Option Bool := some (!decide (x = x))
theorem Yp.mono : ∀ k y0, LeO (Yp.f k y0) (Yp.f (k + 1) y0) := fun k _ => by unfold Yp.f; exact (LeO.refl _)
theorem Yp.calls (k : Nat) {H : Hp} {L : Items} {x : Int} {r : Bool} (he : Yp.f k x = some r) : Ct Tryz.prog 153 ⟨[.int .i64 x]⟩ H L (fun v H' L' => L = L' ∧ H = H' ∧ v = .bool r) := by
 refine X6 (O := Yp.out r) (fun _ _ h => h) ?_
 have hle : H.le H := .refl _
 unfold Yp.f at he
 refine QP (args := [_]) fn_153 rfl nt_153 rfl <| wR rfl <| wA (.bool false) rfl rfl <| wQ rfl <| wM (.int .i64 x) rfl rfl <| wM (.int .i64 x) rfl rfl <| w_d rfl (Zl rfl rfl) <| wA (.bool (!decide (x = x))) rfl rfl <| Qa ?_
 obtain rfl := sj he
 refine Qi fn_153 rs_153 (.tmp (v := .bool (!decide (x = x))) rfl .nil) <| ⟨⟨[], rfl⟩, hle, rfl⟩
noncomputable def X8.C : Code := (Tryz.f136.body).getD .skip
def X8.out (r : Int) (H : Hp) (v : Value) : Prop := v = .int .i64 r
noncomputable def X8.f (k : Nat) (x y : Int) : Option Int := (Yp.f k x).bind fun y1 => (Yp.f k y).bind fun y5 => if y1 = true then (if y5 = true then (some (0)) else (some ((-1)))) else (if y5 = true then (some (1)) else (if x < y then (some ((-1))) else (if y < x then (some (1)) else (some (0)))))
theorem X8.mono : ∀ k y0 y1, LeO (X8.f k y0 y1) (X8.f (k + 1) y0 y1) := fun k _ _ => by unfold X8.f; exact (LeO.bind (Yp.mono k _) fun _ => LeO.bind (Yp.mono k _) fun _ => LeO.ite (LeO.ite (LeO.refl _) (LeO.refl _)) (LeO.ite (LeO.refl _) (LeO.ite (LeO.refl _) (LeO.ite (LeO.refl _) (LeO.refl _)))))
theorem X8.calls (k : Nat) {H : Hp} {L : Items} {x y r : Int} (he : X8.f k x y = some r) : Ct Tryz.prog 136 ⟨[.int .i64 x, .int .i64 y]⟩ H L (fun v H' L' => L = L' ∧ H = H' ∧ v = .int .i64 r) := by
 refine X6 (O := X8.out r) (fun _ _ h => h) ?_
 have hle : H.le H := .refl _
 unfold X8.f at he
 refine QP (args := [_, _]) fn_136 rfl nt_136 rfl <| wR rfl <| wA (.int .i64 0) rfl rfl <| wQ rfl <| wM (.int .i64 x) rfl rfl <| bK he fun y1 hy2 he => w_d rfl (Xs (Qm co153 (vs := [.int .i64 x]) rfl (Yp.calls k hy2))) <| wA (.bool y1) rfl rfl <| Qa ?_
 refine wR rfl <| wM (.int .i64 y) rfl rfl <| bK he fun y5 hy6 he => w_d rfl (Xs (Qm co153 (vs := [.int .i64 y]) rfl (Yp.calls k hy6))) <| wA (.bool y5) rfl rfl <| wE <| wR rfl <| wM (.bool y1) rfl rfl <| Qa ?_
 rcases its he with ⟨c9, he⟩ | ⟨c9, he⟩
 ·
  refine Qy rfl c9 <| QV <| wR rfl <| wM (.bool y5) rfl rfl <| Qa ?_
  rcases its he with ⟨c10, he⟩ | ⟨c10, he⟩
  ·
   refine Qy rfl c10 <| wR rfl <| wA (.int .i64 0) rfl rfl <| Qa ?_
   obtain rfl := sj he
   refine Qi fn_136 rs_136 (.tmp (v := .int .i64 0) rfl .nil) <| ⟨⟨[], rfl⟩, hle, rfl⟩
  ·
   refine QB rfl (Bool.eq_false_iff.2 c10) <| QA <| wR rfl <| wA (.int .i64 (-1)) rfl rfl <| Qa ?_
   obtain rfl := sj he
   refine Qi fn_136 rs_136 (.tmp (v := .int .i64 (-1)) rfl .nil) <| ⟨⟨[], rfl⟩, hle, rfl⟩
 ·
  refine QB rfl (Bool.eq_false_iff.2 c9) <| QA <| QV <| wR rfl <| wM (.bool y5) rfl rfl <| Qa ?_
  rcases its he with ⟨c11, he⟩ | ⟨c11, he⟩
  ·
   refine Qy rfl c11 <| wR rfl <| wA (.int .i64 1) rfl rfl <| Qa ?_
   obtain rfl := sj he
   refine Qi fn_136 rs_136 (.tmp (v := .int .i64 1) rfl .nil) <| ⟨⟨[], rfl⟩, hle, rfl⟩
  ·
   refine QB rfl (Bool.eq_false_iff.2 c11) <| QA <| QV <| wR rfl <| wM (.int .i64 x) rfl rfl <| wM (.int .i64 y) rfl rfl <| w_d rfl (XG rfl rfl) <| Qa ?_
   rcases its he with ⟨c12, he⟩ | ⟨c12, he⟩
   ·
    refine Qy rfl (dt c12) <| wR rfl <| wA (.int .i64 (-1)) rfl rfl <| Qa ?_
    obtain rfl := sj he
    refine Qi fn_136 rs_136 (.tmp (v := .int .i64 (-1)) rfl .nil) <| ⟨⟨[], rfl⟩, hle, rfl⟩
   ·
    refine QB rfl (df c12) <| QA <| QV <| wR rfl <| wM (.int .i64 x) rfl rfl <| wM (.int .i64 y) rfl rfl <| w_d rfl (YR rfl rfl) <| Qa ?_
    rcases its he with ⟨c13, he⟩ | ⟨c13, he⟩
    ·
     refine Qy rfl (dt c13) <| wR rfl <| wA (.int .i64 1) rfl rfl <| Qa ?_
     obtain rfl := sj he
     refine Qi fn_136 rs_136 (.tmp (v := .int .i64 1) rfl .nil) <| ⟨⟨[], rfl⟩, hle, rfl⟩
    ·
     refine QB rfl (df c13) <| QA <| wR rfl <| wA (.int .i64 0) rfl rfl <| Qa ?_
     obtain rfl := sj he
     refine Qi fn_136 rs_136 (.tmp (v := .int .i64 0) rfl .nil) <| ⟨⟨[], rfl⟩, hle, rfl⟩
noncomputable def X5.C : Code := (Tryz.f166.body).getD .skip
def X5.out (r : Bool) (H : Hp) (v : Value) : Prop := v = .bool r
noncomputable def X5.f (k : Nat) (x : Int) : Option Bool := some (!decide (x = x))
theorem X5.mono : ∀ k y0, LeO (X5.f k y0) (X5.f (k + 1) y0) := fun k _ => by unfold X5.f; exact (LeO.refl _)
theorem X5.calls (k : Nat) {H : Hp} {L : Items} {x : Int} {r : Bool} (he : X5.f k x = some r) : Ct Tryz.prog 166 ⟨[.int .u32 x]⟩ H L (fun v H' L' => L = L' ∧ H = H' ∧ v = .bool r) := by
 refine X6 (O := X5.out r) (fun _ _ h => h) ?_
 have hle : H.le H := .refl _
 unfold X5.f at he
 refine QP (args := [_]) fn_166 rfl nt_166 rfl <| wR rfl <| wA (.bool false) rfl rfl <| wQ rfl <| wM (.int .u32 x) rfl rfl <| wM (.int .u32 x) rfl rfl <| w_d rfl (Zl rfl rfl) <| wA (.bool (!decide (x = x))) rfl rfl <| Qa ?_
 obtain rfl := sj he
 refine Qi fn_166 rs_166 (.tmp (v := .bool (!decide (x = x))) rfl .nil) <| ⟨⟨[], rfl⟩, hle, rfl⟩
noncomputable def X4.C : Code := (Tryz.f154.body).getD .skip
def X4.out (r : Int) (H : Hp) (v : Value) : Prop := v = .int .i64 r
noncomputable def X4.f (k : Nat) (x y : Int) : Option Int := (X5.f k x).bind fun y1 => (X5.f k y).bind fun y5 => if y1 = true then (if y5 = true then (some (0)) else (some ((-1)))) else (if y5 = true then (some (1)) else (if x < y then (some ((-1))) else (if y < x then (some (1)) else (some (0)))))
theorem X4.mono : ∀ k y0 y1, LeO (X4.f k y0 y1) (X4.f (k + 1) y0 y1) := fun k _ _ => by unfold X4.f; exact (LeO.bind (X5.mono k _) fun _ => LeO.bind (X5.mono k _) fun _ => LeO.ite (LeO.ite (LeO.refl _) (LeO.refl _)) (LeO.ite (LeO.refl _) (LeO.ite (LeO.refl _) (LeO.ite (LeO.refl _) (LeO.refl _)))))
theorem X4.calls (k : Nat) {H : Hp} {L : Items} {x y r : Int} (he : X4.f k x y = some r) : Ct Tryz.prog 154 ⟨[.int .u32 x, .int .u32 y]⟩ H L (fun v H' L' => L = L' ∧ H = H' ∧ v = .int .i64 r) := by
 refine X6 (O := X4.out r) (fun _ _ h => h) ?_
 have hle : H.le H := .refl _
 unfold X4.f at he
 refine QP (args := [_, _]) fn_154 rfl nt_154 rfl <| wR rfl <| wA (.int .i64 0) rfl rfl <| wQ rfl <| wM (.int .u32 x) rfl rfl <| bK he fun y1 hy2 he => w_d rfl (Xs (Qm co166 (vs := [.int .u32 x]) rfl (X5.calls k hy2))) <| wA (.bool y1) rfl rfl <| Qa ?_
 refine wR rfl <| wM (.int .u32 y) rfl rfl <| bK he fun y5 hy6 he => w_d rfl (Xs (Qm co166 (vs := [.int .u32 y]) rfl (X5.calls k hy6))) <| wA (.bool y5) rfl rfl <| wE <| wR rfl <| wM (.bool y1) rfl rfl <| Qa ?_
 rcases its he with ⟨c9, he⟩ | ⟨c9, he⟩
 ·
  refine Qy rfl c9 <| QV <| wR rfl <| wM (.bool y5) rfl rfl <| Qa ?_
  rcases its he with ⟨c10, he⟩ | ⟨c10, he⟩
  ·
   refine Qy rfl c10 <| wR rfl <| wA (.int .i64 0) rfl rfl <| Qa ?_
   obtain rfl := sj he
   refine Qi fn_154 rs_154 (.tmp (v := .int .i64 0) rfl .nil) <| ⟨⟨[], rfl⟩, hle, rfl⟩
  ·
   refine QB rfl (Bool.eq_false_iff.2 c10) <| QA <| wR rfl <| wA (.int .i64 (-1)) rfl rfl <| Qa ?_
   obtain rfl := sj he
   refine Qi fn_154 rs_154 (.tmp (v := .int .i64 (-1)) rfl .nil) <| ⟨⟨[], rfl⟩, hle, rfl⟩
 ·
  refine QB rfl (Bool.eq_false_iff.2 c9) <| QA <| QV <| wR rfl <| wM (.bool y5) rfl rfl <| Qa ?_
  rcases its he with ⟨c11, he⟩ | ⟨c11, he⟩
  ·
   refine Qy rfl c11 <| wR rfl <| wA (.int .i64 1) rfl rfl <| Qa ?_
   obtain rfl := sj he
   refine Qi fn_154 rs_154 (.tmp (v := .int .i64 1) rfl .nil) <| ⟨⟨[], rfl⟩, hle, rfl⟩
  ·
   refine QB rfl (Bool.eq_false_iff.2 c11) <| QA <| QV <| wR rfl <| wM (.int .u32 x) rfl rfl <| wM (.int .u32 y) rfl rfl <| w_d rfl (XG rfl rfl) <| Qa ?_
   rcases its he with ⟨c12, he⟩ | ⟨c12, he⟩
   ·
    refine Qy rfl (dt c12) <| wR rfl <| wA (.int .i64 (-1)) rfl rfl <| Qa ?_
    obtain rfl := sj he
    refine Qi fn_154 rs_154 (.tmp (v := .int .i64 (-1)) rfl .nil) <| ⟨⟨[], rfl⟩, hle, rfl⟩
   ·
    refine QB rfl (df c12) <| QA <| QV <| wR rfl <| wM (.int .u32 x) rfl rfl <| wM (.int .u32 y) rfl rfl <| w_d rfl (YR rfl rfl) <| Qa ?_
    rcases its he with ⟨c13, he⟩ | ⟨c13, he⟩
    ·
     refine Qy rfl (dt c13) <| wR rfl <| wA (.int .i64 1) rfl rfl <| Qa ?_
     obtain rfl := sj he
     refine Qi fn_154 rs_154 (.tmp (v := .int .i64 1) rfl .nil) <| ⟨⟨[], rfl⟩, hle, rfl⟩
    ·
     refine QB rfl (df c13) <| QA <| wR rfl <| wA (.int .i64 0) rfl rfl <| Qa ?_
     obtain rfl := sj he
     refine Qi fn_154 rs_154 (.tmp (v := .int .i64 0) rfl .nil) <| ⟨⟨[], rfl⟩, hle, rfl⟩
noncomputable def Q0.C : Code := (Tryz.f137.body).getD .skip
def Q0.out (r : Int) (H : Hp) (v : Value) : Prop := v = .int .i64 r
abbrev Q0.R (H0 : Hp) (L : Items) (r : Int) := fR H0 L (Q0.out r)
structure Q0.Hs where
 l0 : (List Int) → (List Int) → Int → Int → Option Int
noncomputable def Q0.b0 (k : Nat) (h : Q0.Hs) (a b : List Int) (t4 i : Int) : Option Int := if 0 ≤ i then (if (0 : Int) ≤ i ∧ i < (a.length : Int) then (if (0 : Int) ≤ i ∧ i < (b.length : Int) then ((X4.f k (rd a i) (rd b i)).bind fun y11 => if y11 = 0 then (h.l0 a b t4 (w64 (i - 1))) else (some (y11))) else none) else none) else (some (0))
noncomputable def Q0.hs : Nat → Q0.Hs
 | 0 => ⟨fun _ _ _ _ => none⟩
 | k + 1 => ⟨fun x0 x1 x2 x3 => Q0.b0 k (Q0.hs k) x0 x1 x2 x3⟩
noncomputable def Q0.f (k : Nat) (a b : List Int) : Option Int := (fun h : Q0.Hs => (X8.f k (a.length : Int) (b.length : Int)).bind fun y1 => if y1 = 0 then (h.l0 a b 0 (w64 ((a.length : Int) - 1))) else (some (y1))) (Q0.hs k)
structure Q0.LE (h h' : Q0.Hs) : Prop where
 l0 : ∀ y0 y1 y2 y3, LeO (h.l0 y0 y1 y2 y3) (h'.l0 y0 y1 y2 y3)
theorem Q0.b0_mono {k : Nat} {h h' : Q0.Hs} (hl : Q0.LE h h') : ∀ y0 y1 y2 y3, LeO (Q0.b0 k h y0 y1 y2 y3) (Q0.b0 (k + 1) h' y0 y1 y2 y3) := fun _ _ _ _ => (LeO.ite (LeO.ite (LeO.ite (LeO.bind (X4.mono k _ _) fun _ => LeO.ite (hl.l0 _ _ _ _) (LeO.refl _)) (LeO.refl _)) (LeO.refl _)) (LeO.refl _))
theorem Q0.hs_mono : ∀ k, Q0.LE (Q0.hs k) (Q0.hs (k + 1))
 | 0 => ⟨fun _ _ _ _ => LeO.none _⟩
 | k + 1 => ⟨Q0.b0_mono (k := k) (Q0.hs_mono k)⟩
theorem Q0.mono : ∀ k y0 y1, LeO (Q0.f k y0 y1) (Q0.f (k + 1) y0 y1) := fun k _ _ => have hl := Q0.hs_mono k; by unfold Q0.f; exact (LeO.bind (X8.mono k _ _) fun _ => LeO.ite (hl.l0 _ _ _ _) (LeO.refl _))
noncomputable def Q0.Kl0 : List Item := .code (lopB (blkB (seqR (seqL (seqR (seqR Q0.C)))))) :: .inLoop (lopB (blkB (seqR (seqL (seqR (seqR Q0.C)))))) :: .inBlock 0 :: .code (seqR (seqR (seqR Q0.C))) :: []
structure Q0.OK (h : Q0.Hs) : Prop where
 l0 : ∀ {H0 H : Hp} {L : Items} {r : Int} {jk_ : Nat → Value} {a : List Int} {b : List Int} {t4 : Int} {i : Int} {v_a : Value} {v_b : Value} (_ : H0.le H) (_he : h.l0 a b t4 i = some r) (_h_a : Src kU32 H L v_a a) (_h_b : Src kU32 H L v_b b), Wp Tryz.prog 137 35 Q0.Kl0 (upd (upd (upd (upd jk_ 0 (v_a)) 1 (v_b)) 4 (.int .i64 t4)) 6 (.int .i64 i)) H (L) (Q0.R H0 L r)
theorem Q0.b0_ok {k : Nat} {h : Q0.Hs} (hh : Q0.OK h) {H0 H : Hp} {L : Items} {r : Int} {jk_ : Nat → Value} {a b : List Int} {t4 i : Int} {v_a v_b : Value} (hle : H0.le H) (he : Q0.b0 k h a b t4 i = some r) (h_a : Src kU32 H L v_a a) (h_b : Src kU32 H L v_b b) : Wp Tryz.prog 137 35 Q0.Kl0 (upd (upd (upd (upd jk_ 0 (v_a)) 1 (v_b)) 4 (.int .i64 t4)) 6 (.int .i64 i)) H (L) (Q0.R H0 L r) := by
 unfold Q0.b0 at he
 unfold Q0.Kl0
 refine QV <| wR rfl <| wM (.int .i64 i) rfl rfl <| w_d rfl (ZB rfl rfl) <| Qa ?_
 rcases its he with ⟨c6, he⟩ | ⟨c6, he⟩
 ·
  refine Qy rfl (dt c6) <| QA <| QV <| QU <| QV <| rK he fun c7 he => rK he fun c8 he => XJ (p := 8) (tl := [8, 9]) [[], [], [(0, some 23), (1, some 24)], [(2, some 25)], [], [], [(4, some 27), (5, some 28)], [(6, some 29)]] [some 23, some 24, some 25, some 26, some 27, some 28, some 29, some 30] (fctF (.is (v_a) :: .is (.int .i64 i) :: .is (.pointer (some (pel v_a i 1))) :: .is (.int .u32 (rd a i)) :: .is (v_b) :: .is (.int .i64 i) :: .is (.pointer (some (pel v_b i 1))) :: .is (.int .u32 (rd b i)) :: [])) (fun m_ => L) (fun _ => none) mixed (by kernel_rfl) (by kernel_rfl) rfl (Xv (by kernel_rfl)) ⟨(fun H' m_ hH hm_ hu_ => dn <| s_d (m_ 0) rfl (QF (v := v_a) rfl) (by exact rfl) rfl), (fun H' m_ hH hm_ hu_ => dn <| s_d (m_ 1) rfl (QF (v := .int .i64 i) rfl) (by exact rfl) rfl), (by rintro H' m_ hH hm_ hu_ _ rfl _ rfl; exact dn <| s_d (m_ 2) rfl (XM (sz := 1) Tryz.underlying22 sz167 rfl (h_a.mono hH) rfl c7) (by exact rfl) rfl), (by rintro H' m_ hH hm_ hu_ _ rfl; exact dn <| s_d (m_ 3) rfl (XL ty167 rfl (h_a.mono hH) c7) (by exact rfl) rfl), (fun H' m_ hH hm_ hu_ => dn <| s_d (m_ 4) rfl (QF (v := v_b) rfl) (by exact rfl) rfl), (fun H' m_ hH hm_ hu_ => dn <| s_d (m_ 5) rfl (QF (v := .int .i64 i) rfl) (by exact rfl) rfl), (by rintro H' m_ hH hm_ hu_ _ rfl _ rfl; exact dn <| s_d (m_ 6) rfl (XM (sz := 1) Tryz.underlying22 sz167 rfl (h_b.mono hH) rfl c8) (by exact rfl) rfl), (by rintro H' m_ hH hm_ hu_ _ rfl; exact dn <| s_d (m_ 7) rfl (XL ty167 rfl (h_b.mono hH) c8) (by exact rfl) rfl), trivial⟩ ?_
  intro H9 e10
  rintro _ _ rfl _ _ rfl _ _ rfl _ _ rfl _ _ rfl _ _ rfl _ _ rfl _ _ rfl
  refine bK he fun y11 hy12 he => w_d rfl (Xs (Qm co154 (vs := [.int .u32 (rd a i), .int .u32 (rd b i)]) rfl (X4.calls k hy12))) <| wA (.int .i64 y11) rfl rfl <| wQ rfl <| wM (.int .i64 y11) rfl rfl <| w_d rfl (Zl rfl rfl) <| Qa ?_
  rcases its he with ⟨c15, he⟩ | ⟨c15, he⟩
  ·
   refine QB rfl (nd_t c15) <| QA <| Xk <| QD rfl <| wM (.int .i64 i) rfl rfl <| w_d rfl (Ys (c := w64 (i - 1)) rfl rfl rfl) <| wA (.int .i64 (w64 (i - 1))) rfl rfl <| Qa <| Xy <| w_sl 0 (v_a) rfl <| w_sl 1 (v_b) rfl <| w_sl 4 (.int .i64 t4) rfl ?_
   refine w_sl 6 (.int .i64 (w64 (i - 1))) rfl <| hh.l0 (hle.trans e10) he (h_a.mono e10) (h_b.mono e10)
  ·
   refine Qy rfl (nd_f c15) <| wR rfl <| wM (.int .i64 y11) rfl rfl <| wA (.int .i64 y11) rfl rfl <| Qa ?_
   obtain rfl := sj he
   refine Qi fn_137 rs_137 (.tmp (v := .int .i64 y11) rfl .nil) <| ⟨⟨[], rfl⟩, hle.trans e10, rfl⟩
 ·
  refine QB rfl (df c6) <| X1 rfl <| wR rfl <| wA (.int .i64 0) rfl rfl <| Qa ?_
  obtain rfl := sj he
  refine Qi fn_137 rs_137 (.tmp (v := .int .i64 0) rfl .nil) <| ⟨⟨[], rfl⟩, hle, rfl⟩
theorem Q0.ok : ∀ k, Q0.OK (Q0.hs k)
 | 0 => ⟨(by intros; exact nomatch (show none = some _ from by assumption))⟩
 | k + 1 => ⟨Q0.b0_ok (k := k) (Q0.ok k)⟩
theorem Q0.calls (k : Nat) {H : Hp} {L : Items} {a b : List Int} {v0_a v1_b : Value} {r : Int} (he : Q0.f k a b = some r) (h0_a : Src kU32 H L v0_a a) (h1_b : Src kU32 H L v1_b b) : Ct Tryz.prog 137 ⟨[v0_a, v1_b]⟩ H L (fun v H' L' => L = L' ∧ H = H' ∧ v = .int .i64 r) := by
 refine X6 (O := Q0.out r) (fun _ _ h => h) ?_
 have hle : H.le H := .refl _
 have hh := Q0.ok k
 unfold Q0.f at he
 refine QP (args := [_, _]) fn_137 rfl nt_137 rfl <| wR rfl <| wA (.int .i64 0) rfl rfl <| wE <| wR rfl <| wM v0_a rfl rfl <| w_d rfl (Xq Tryz.underlying22 rfl h0_a) <| wM v1_b rfl rfl <| w_d rfl (Xq Tryz.underlying22 rfl h1_b) ?_
 refine bK he fun y1 hy2 he => w_d rfl (Xs (Qm co136 (vs := [.int .i64 (a.length : Int), .int .i64 (b.length : Int)]) rfl (X8.calls k hy2))) <| wA (.int .i64 y1) rfl rfl <| wQ rfl <| wM (.int .i64 y1) rfl rfl <| w_d rfl (Zl rfl rfl) <| Qa ?_
 rcases its he with ⟨c5, he⟩ | ⟨c5, he⟩
 ·
  refine QB rfl (nd_t c5) <| QA <| QV <| wR rfl <| wM v0_a rfl rfl <| w_d rfl (Xq Tryz.underlying22 rfl h0_a) <| w_d rfl (Ys (c := w64 ((a.length : Int) - 1)) rfl rfl rfl) <| wA (.int .i64 (w64 ((a.length : Int) - 1))) rfl rfl <| Qa <| QU <| X3 ?_
  refine w_sl 0 (v0_a) rfl <| w_sl 1 (v1_b) rfl <| w_sl 4 (.int .i64 0) rfl <| w_sl 6 (.int .i64 (w64 ((a.length : Int) - 1))) rfl <| hh.l0 hle he h0_a h1_b
 ·
  refine Qy rfl (nd_f c5) <| wR rfl <| wM (.int .i64 y1) rfl rfl <| wA (.int .i64 y1) rfl rfl <| Qa ?_
  obtain rfl := sj he
  refine Qi fn_137 rs_137 (.tmp (v := .int .i64 y1) rfl .nil) <| ⟨⟨[], rfl⟩, hle, rfl⟩
noncomputable def QW.C : Code := (Tryz.f130.body).getD .skip
def QW.out (r : (List Int) × Int) (H : Hp) (v : Value) : Prop := ∃ v0, v = .tuple ⟨[v0, .int .u32 r.2]⟩ ∧ Ro kU32 H v0 r.1
abbrev QW.R (H0 : Hp) (L : Items) (r : (List Int) × Int) := fR H0 L (QW.out r)
structure QW.Hs where
 l0 : (List Int) → Int → (List Int) → Int → Int → Option ((List Int) × Int)
noncomputable def QW.b0 (k : Nat) (h : QW.Hs) (a : List Int) (b : Int) (out : List Int) (rest i : Int) : Option ((List Int) × Int) := if 0 ≤ i then (if (0 : Int) ≤ i ∧ i < (a.length : Int) then (if ((b) % 18446744073709551616) ≠ 0 then (if (0 : Int) ≤ i ∧ i < (out.length : Int) then (if ((b) % 18446744073709551616) ≠ 0 then (h.l0 a b (out.set (i : Int).toNat (((Int.tdiv (ior .u64 ((rest * 4294967296) % 18446744073709551616) ((rd a i) % 18446744073709551616)) ((b) % 18446744073709551616)) % 18446744073709551616) % 4294967296)) (Int.tmod (ior .u64 ((rest * 4294967296) % 18446744073709551616) ((rd a i) % 18446744073709551616)) ((b) % 18446744073709551616)) (w64 (i - 1))) else none) else none) else none) else none) else ((QQ.f k out).bind fun y15 => some (y15, (rest) % 4294967296))
noncomputable def QW.hs : Nat → QW.Hs
 | 0 => ⟨fun _ _ _ _ _ => none⟩
 | k + 1 => ⟨fun x0 x1 x2 x3 x4 => QW.b0 k (QW.hs k) x0 x1 x2 x3 x4⟩
noncomputable def QW.f (k : Nat) (a : List Int) (b : Int) : Option ((List Int) × Int) := (fun h : QW.Hs => if 0 ≤ (a.length : Int) ∧ (a.length : Int) ≤ 70368744177664 then (h.l0 a b (List.replicate ((a.length : Int) : Int).toNat (0 : Int)) 0 (w64 ((a.length : Int) - 1))) else none) (QW.hs k)
structure QW.LE (h h' : QW.Hs) : Prop where
 l0 : ∀ y0 y1 y2 y3 y4, LeO (h.l0 y0 y1 y2 y3 y4) (h'.l0 y0 y1 y2 y3 y4)
theorem QW.b0_mono {k : Nat} {h h' : QW.Hs} (hl : QW.LE h h') : ∀ y0 y1 y2 y3 y4, LeO (QW.b0 k h y0 y1 y2 y3 y4) (QW.b0 (k + 1) h' y0 y1 y2 y3 y4) := fun _ _ _ _ _ => (LeO.ite (LeO.ite (LeO.ite (LeO.ite (LeO.ite (hl.l0 _ _ _ _ _) (LeO.refl _)) (LeO.refl _)) (LeO.refl _)) (LeO.refl _)) (LeO.bind (QQ.mono k _) fun _ => LeO.refl _))
theorem QW.hs_mono : ∀ k, QW.LE (QW.hs k) (QW.hs (k + 1))
 | 0 => ⟨fun _ _ _ _ _ => LeO.none _⟩
 | k + 1 => ⟨QW.b0_mono (k := k) (QW.hs_mono k)⟩
theorem QW.mono : ∀ k y0 y1, LeO (QW.f k y0 y1) (QW.f (k + 1) y0 y1) := fun k _ _ => have hl := QW.hs_mono k; by unfold QW.f; exact (LeO.ite (hl.l0 _ _ _ _ _) (LeO.refl _))
noncomputable def QW.Kl0 : List Item := .code (lopB (blkB (seqR (seqL (seqR (seqR (seqR QW.C))))))) :: .inLoop (lopB (blkB (seqR (seqL (seqR (seqR (seqR QW.C))))))) :: .inBlock 0 :: .code (seqR (seqR (seqR (seqR QW.C)))) :: []
structure QW.OK (h : QW.Hs) : Prop where
 l0 : ∀ {H0 H : Hp} {L : Items} {r : (List Int) × Int} {jk_ : Nat → Value} {a : List Int} {b : Int} {out : List Int} {rest : Int} {i : Int} {v_a : Value} {v_out : Value} {i_out : Item'} (_ : H0.le H) (_he : h.l0 a b out rest i = some r) (_h_a : Src kU32 H L v_a a) (_h_out : Sl kU32 H 167 i_out v_out out), Wp Tryz.prog 130 44 QW.Kl0 (upd (upd (upd (upd (upd (upd (upd jk_ 0 (v_a)) 1 (.int .u32 b)) 4 (.slice none 0 0)) 5 (.int .u32 0)) 6 (v_out)) 7 (.int .u64 rest)) 8 (.int .i64 i)) H (i_out :: L) (QW.R H0 L r)
theorem QW.b0_ok {k : Nat} {h : QW.Hs} (hh : QW.OK h) {H0 H : Hp} {L : Items} {r : (List Int) × Int} {jk_ : Nat → Value} {a : List Int} {b : Int} {out : List Int} {rest i : Int} {v_a v_out : Value} {i_out : Item'} (hle : H0.le H) (he : QW.b0 k h a b out rest i = some r) (h_a : Src kU32 H L v_a a) (h_out : Sl kU32 H 167 i_out v_out out) : Wp Tryz.prog 130 44 QW.Kl0 (upd (upd (upd (upd (upd (upd (upd jk_ 0 (v_a)) 1 (.int .u32 b)) 4 (.slice none 0 0)) 5 (.int .u32 0)) 6 (v_out)) 7 (.int .u64 rest)) 8 (.int .i64 i)) H (i_out :: L) (QW.R H0 L r) := by
 unfold QW.b0 at he
 unfold QW.Kl0
 refine QV <| wR rfl <| wM (.int .i64 i) rfl rfl <| w_d rfl (ZB rfl rfl) <| Qa ?_
 rcases its he with ⟨c5, he⟩ | ⟨c5, he⟩
 ·
  refine Qy rfl (dt c5) <| QA <| QV <| QU <| wR rfl <| wM (.int .u64 rest) rfl rfl <| w_d rfl (Z9 (c := (rest * 4294967296) % 18446744073709551616) rfl rfl (by decide) rfl) <| wM v_a rfl rfl <| wM (.int .i64 i) rfl rfl <| rK he fun c6 he => w_d rfl (XM (sz := 1) Tryz.underlying22 sz167 rfl h_a.th rfl c6) ?_
  refine w_d rfl (XL ty167 rfl h_a.th c6) <| w_d rfl (XY (c := (rd a i) % 18446744073709551616) Tryz.underlying167 Tryz.underlying113 rfl rfl) <| w_d rfl (Js rfl rfl) <| wA (.int .u64 (ior .u64 ((rest * 4294967296) % 18446744073709551616) ((rd a i) % 18446744073709551616))) rfl rfl <| wQ rfl <| wM v_out rfl rfl <| wM (.int .i64 i) rfl rfl <| wM (.int .u64 (ior .u64 ((rest * 4294967296) % 18446744073709551616) ((rd a i) % 18446744073709551616))) rfl rfl <| wM (.int .u32 b) rfl rfl <| w_d rfl (XY (c := (b) % 18446744073709551616) Tryz.underlying167 Tryz.underlying113 rfl rfl) ?_
  refine rK he fun c7 he => w_d rfl (Ju (c := (Int.tdiv (ior .u64 ((rest * 4294967296) % 18446744073709551616) ((rd a i) % 18446744073709551616)) ((b) % 18446744073709551616)) % 18446744073709551616) rfl rfl c7 rfl) <| w_d rfl (XY (c := ((Int.tdiv (ior .u64 ((rest * 4294967296) % 18446744073709551616) ((rd a i) % 18446744073709551616)) ((b) % 18446744073709551616)) % 18446744073709551616) % 4294967296) Tryz.underlying113 Tryz.underlying167 rfl rfl) <| rK he fun c8 he => w_d rfl (YF (sz := 1) Tryz.underlying22 sz167 rfl h_out.shp rfl c8) <| w_a0 rfl (Y4 (kd := kU32) (v := .int .u32 (((Int.tdiv (ior .u64 ((rest * 4294967296) % 18446744073709551616) ((rd a i) % 18446744073709551616)) ((b) % 18446744073709551616)) % 18446744073709551616) % 4294967296)) (F := fun z_ => z_ :: L) sz167 rfl rfl rfl rfl h_out c8 (fun _ => .here)) ?_
  rintro _ _ _ ⟨i9, rfl, rfl, rfl, h10⟩
  refine Qa <| QD rfl <| wM (.int .u64 (ior .u64 ((rest * 4294967296) % 18446744073709551616) ((rd a i) % 18446744073709551616))) rfl rfl <| wM (.int .u32 b) rfl rfl <| w_d rfl (XY (c := (b) % 18446744073709551616) Tryz.underlying167 Tryz.underlying113 rfl rfl) <| rK he fun c11 he => w_d rfl (Jk rfl rfl c11) <| wA (.int .u64 (Int.tmod (ior .u64 ((rest * 4294967296) % 18446744073709551616) ((rd a i) % 18446744073709551616)) ((b) % 18446744073709551616))) rfl rfl <| Qa <| Xk <| QD rfl <| wM (.int .i64 i) rfl rfl ?_
  refine w_d rfl (Ys (c := w64 (i - 1)) rfl rfl rfl) <| wA (.int .i64 (w64 (i - 1))) rfl rfl <| Qa <| Xy <| w_sl 0 (v_a) rfl <| w_sl 1 (.int .u32 b) rfl <| w_sl 4 (.slice none 0 0) rfl <| w_sl 5 (.int .u32 0) rfl <| w_sl 6 (v_out) rfl <| w_sl 7 (.int .u64 (Int.tmod (ior .u64 ((rest * 4294967296) % 18446744073709551616) ((rd a i) % 18446744073709551616)) ((b) % 18446744073709551616))) rfl <| w_sl 8 (.int .i64 (w64 (i - 1))) rfl <| hh.l0 hle he h_a h10
 ·
  refine QB rfl (df c5) <| X1 rfl <| wR rfl <| wM v_out rfl rfl <| Yv h_out .here ?_
  intro H12 e13 h14
  refine bK he fun y15 hy16 he => w_a rfl (Qm co113 (vs := [v_out]) rfl (QQ.calls k hy16 h14)) ?_
  rintro v19 H17 _ ⟨rfl, e18, h20⟩
  refine wM (.int .u64 rest) rfl rfl <| w_d rfl (XY (c := (rest) % 4294967296) Tryz.underlying113 Tryz.underlying167 rfl rfl) <| wA v19 rfl rfl <| wA (.int .u32 ((rest) % 4294967296)) rfl rfl <| Qa ?_
  obtain rfl := sj he
  refine Qi fn_130 rs_130 (.tmp (v := v19) rfl (.tmp (v := .int .u32 ((rest) % 4294967296)) rfl .nil)) <| ⟨⟨[_], rfl⟩, hle.trans (e13.trans e18), ⟨v19, rfl, h20⟩⟩
theorem QW.ok : ∀ k, QW.OK (QW.hs k)
 | 0 => ⟨(by intros; exact nomatch (show none = some _ from by assumption))⟩
 | k + 1 => ⟨QW.b0_ok (k := k) (QW.ok k)⟩
theorem QW.calls (k : Nat) {H : Hp} {L : Items} {a : List Int} {b : Int} {v0_a : Value} {r : (List Int) × Int} (he : QW.f k a b = some r) (h0_a : Src kU32 H L v0_a a) : Ct Tryz.prog 130 ⟨[v0_a, .int .u32 b]⟩ H L (cR H L (QW.out r)) := by
 refine XR (O := QW.out r) ?_
 have hle : H.le H := .refl _
 have hh := QW.ok k
 unfold QW.f at he
 refine QP (args := [_, _]) fn_130 rfl nt_130 rfl <| wR rfl <| wA (.slice none 0 0) rfl rfl <| wA (.int .u32 0) rfl rfl <| wQ rfl <| wM v0_a rfl rfl <| w_d rfl (Xq Tryz.underlying22 rfl h0_a) <| rK he fun c1 he => w_a rfl (o_make' (kd := kU32) (z0 := 0) Tryz.underlying22 ti167 (zp167 _) rfl rfl (by omega) (by omega) (by omega)) ?_
 rintro v2 _ _ ⟨i3, rfl, rfl, h4⟩
 refine wA v2 rfl rfl <| wQ rfl <| wA (.int .u64 0) rfl rfl <| wE <| wR rfl <| wM v0_a rfl rfl <| w_d rfl (Xq Tryz.underlying22 rfl h0_a.th) <| w_d rfl (Ys (c := w64 ((a.length : Int) - 1)) rfl rfl rfl) ?_
 refine wA (.int .i64 (w64 ((a.length : Int) - 1))) rfl rfl <| Qa <| QU <| X3 <| w_sl 0 (v0_a) rfl <| w_sl 1 (.int .u32 b) rfl <| w_sl 4 (.slice none 0 0) rfl <| w_sl 5 (.int .u32 0) rfl <| w_sl 6 (v2) rfl <| w_sl 7 (.int .u64 0) rfl <| w_sl 8 (.int .i64 (w64 ((a.length : Int) - 1))) rfl <| hh.l0 hle he h0_a h4
noncomputable def Xa.C : Code := (Tryz.f167.body).getD .skip
def Xa.out (r : Int) (H : Hp) (v : Value) : Prop := v = .int .i64 r
abbrev Xa.R (H0 : Hp) (L : Items) (r : Int) := fR H0 L (Xa.out r)
noncomputable def Xa.j2 (k : Nat) (x n : Int) : Option Int := if (0 : Int) ≤ (x) % 256 ∧ (x) % 256 < (str_4.size : Int) then (some (w64 (n + (w64 (bt str_4 ((x) % 256)))))) else none
noncomputable def Xa.j1 (k : Nat) (x n : Int) : Option Int := if 256 ≤ x then (Xa.j2 k (x / 256) (w64 (n + 8))) else (Xa.j2 k x n)
noncomputable def Xa.f (k : Nat) (x : Int) : Option Int := if 65536 ≤ x then (Xa.j1 k (x / 65536) 16) else (Xa.j1 k x 0)
theorem Xa.j2_mono {k : Nat} : ∀ y0 y1, LeO (Xa.j2 k y0 y1) (Xa.j2 (k + 1) y0 y1) := fun _ _ => (LeO.ite (LeO.refl _) (LeO.refl _))
theorem Xa.j1_mono {k : Nat} : ∀ y0 y1, LeO (Xa.j1 k y0 y1) (Xa.j1 (k + 1) y0 y1) := fun _ _ => (LeO.ite (Xa.j2_mono (k := k)  _ _) (Xa.j2_mono (k := k)  _ _))
theorem Xa.mono : ∀ k y0, LeO (Xa.f k y0) (Xa.f (k + 1) y0) := fun k _ => by unfold Xa.f; exact (LeO.ite (Xa.j1_mono (k := k)  _ _) (Xa.j1_mono (k := k)  _ _))
noncomputable def Xa.Kj1 : List Item := .code (seqR (seqR Xa.C)) :: []
noncomputable def Xa.Kj2 : List Item := .code (seqR (seqR (seqR Xa.C))) :: []
theorem Xa.j2_ok {k : Nat} {H0 H : Hp} {L : Items} {r : Int} {jk_ : Nat → Value} {x n : Int} (hle : H0.le H) (he : Xa.j2 k x n = some r) : Wp Tryz.prog 167 19 Xa.Kj2 (upd (upd jk_ 0 (.int .u32 x)) 2 (.int .i64 n)) H (L) (Xa.R H0 L r) := by
 unfold Xa.j2 at he
 unfold Xa.Kj2
 refine wR rfl <| wM (.int .i64 n) rfl rfl <| wM (.int .u32 x) rfl rfl <| w_d rfl (XY (c := (x) % 256) Tryz.underlying167 Tryz.underlying5 rfl rfl) <| rK he fun c3 he => w_d rfl (d_bt Tryz.underlying9 rfl rfl c3) <| w_d rfl (XY (c := w64 (bt str_4 ((x) % 256))) Tryz.underlying5 Tryz.underlying3 rfl rfl) <| w_d rfl (Xt (c := w64 (n + (w64 (bt str_4 ((x) % 256))))) rfl rfl rfl) <| wA (.int .i64 (w64 (n + (w64 (bt str_4 ((x) % 256)))))) rfl rfl <| Qa ?_
 obtain rfl := sj he
 refine Qi fn_167 rs_167 (.tmp (v := .int .i64 (w64 (n + (w64 (bt str_4 ((x) % 256)))))) rfl .nil) <| ⟨⟨[], rfl⟩, hle, rfl⟩
theorem Xa.j1_ok {k : Nat} {H0 H : Hp} {L : Items} {r : Int} {jk_ : Nat → Value} {x n : Int} (hle : H0.le H) (he : Xa.j1 k x n = some r) : Wp Tryz.prog 167 19 Xa.Kj1 (upd (upd jk_ 0 (.int .u32 x)) 2 (.int .i64 n)) H (L) (Xa.R H0 L r) := by
 unfold Xa.j1 at he
 unfold Xa.Kj1
 refine QV <| wR rfl <| wM (.int .u32 x) rfl rfl <| w_d rfl (ZB rfl rfl) <| Qa ?_
 rcases its he with ⟨c2, he⟩ | ⟨c2, he⟩
 ·
  refine Qy rfl (dt c2) <| wR rfl <| wM (.int .u32 x) rfl rfl <| w_d rfl (Y0 (c := x / 256) rfl rfl (by decide) rfl) <| wA (.int .u32 (x / 256)) rfl rfl <| Qa <| QD rfl <| wM (.int .i64 n) rfl rfl <| w_d rfl (Xt (c := w64 (n + 8)) rfl rfl rfl) <| wA (.int .i64 (w64 (n + 8))) rfl rfl <| Qa ?_
  refine w_sl 0 (.int .u32 (x / 256)) rfl <| w_sl 2 (.int .i64 (w64 (n + 8))) rfl <| Xa.j2_ok (k := k) hle he
 ·
  refine QB rfl (df c2) <| QA <| w_sl 0 (.int .u32 x) rfl <| w_sl 2 (.int .i64 n) rfl <| Xa.j2_ok (k := k) hle he
theorem Xa.calls (k : Nat) {H : Hp} {L : Items} {x r : Int} (he : Xa.f k x = some r) : Ct Tryz.prog 167 ⟨[.int .u32 x]⟩ H L (fun v H' L' => L = L' ∧ H = H' ∧ v = .int .i64 r) := by
 refine X6 (O := Xa.out r) (fun _ _ h => h) ?_
 have hle : H.le H := .refl _
 unfold Xa.f at he
 refine QP (args := [_]) fn_167 rfl nt_167 rfl <| wR rfl <| wA (.int .i64 0) rfl rfl <| wE <| wR rfl <| wM (.int .u32 x) rfl rfl <| w_d rfl (ZB rfl rfl) <| Qa ?_
 rcases its he with ⟨c1, he⟩ | ⟨c1, he⟩
 ·
  refine Qy rfl (dt c1) <| wR rfl <| wM (.int .u32 x) rfl rfl <| w_d rfl (Y0 (c := x / 65536) rfl rfl (by decide) rfl) <| wA (.int .u32 (x / 65536)) rfl rfl <| Qa <| QD rfl <| wA (.int .i64 16) rfl rfl <| Qa <| w_sl 0 (.int .u32 (x / 65536)) rfl <| w_sl 2 (.int .i64 16) rfl <| Xa.j1_ok (k := k) hle he
 ·
  refine QB rfl (df c1) <| QA <| w_sl 0 (.int .u32 x) rfl <| w_sl 2 (.int .i64 0) rfl <| Xa.j1_ok (k := k) hle he
noncomputable def XU.C : Code := (Tryz.f155.body).getD .skip
def XU.out (r : Int) (H : Hp) (v : Value) : Prop := v = .int .i64 r
noncomputable def XU.f (k : Nat) (x : Int) : Option Int := (Xa.f k x).bind fun y1 => some (w64 (32 - y1))
theorem XU.mono : ∀ k y0, LeO (XU.f k y0) (XU.f (k + 1) y0) := fun k _ => by unfold XU.f; exact (LeO.bind (Xa.mono k _) fun _ => LeO.refl _)
theorem XU.calls (k : Nat) {H : Hp} {L : Items} {x r : Int} (he : XU.f k x = some r) : Ct Tryz.prog 155 ⟨[.int .u32 x]⟩ H L (fun v H' L' => L = L' ∧ H = H' ∧ v = .int .i64 r) := by
 refine X6 (O := XU.out r) (fun _ _ h => h) ?_
 have hle : H.le H := .refl _
 unfold XU.f at he
 refine QP (args := [_]) fn_155 rfl nt_155 rfl <| wR rfl <| wA (.int .i64 0) rfl rfl <| wQ rfl <| wM (.int .u32 x) rfl rfl <| bK he fun y1 hy2 he => w_d rfl (Xs (Qm co167 (vs := [.int .u32 x]) rfl (Xa.calls k hy2))) <| w_d rfl (Ys (c := w64 (32 - y1)) rfl rfl rfl) <| wA (.int .i64 (w64 (32 - y1))) rfl rfl ?_
 refine Qa ?_
 obtain rfl := sj he
 refine Qi fn_155 rs_155 (.tmp (v := .int .i64 (w64 (32 - y1))) rfl .nil) <| ⟨⟨[], rfl⟩, hle, rfl⟩
noncomputable def Xi.C : Code := (Tryz.f114.body).getD .skip
abbrev Xi.out (r : (List Int)) (H : Hp) (v : Value) : Prop := Ro kU32 H v r
abbrev Xi.R (H0 : Hp) (L : Items) (r : (List Int)) : Value → Hp → Items → Prop := fun v H' L' => (∃ p it, L' = p ++ it :: L ∧ Sl kU32 H' 167 it v r) ∧ H0.le H'
structure Xi.Hs where
 l0 : Int → (List Int) → Int → (List Int) → Int → Int → Option (List Int)
noncomputable def Xi.b0 (k : Nat) (h : Xi.Hs) (n : Int) (out : List Int) (carry : Int) (t14 : List Int) (t15 t16 : Int) : Option (List Int) := if t16 < t15 then (if (0 : Int) ≤ t16 ∧ t16 < (t14.length : Int) then (if 0 ≤ n then (if out.length + 1 ≤ 35184372088704 then (h.l0 n (out ++ [(ior .u64 ((((rd t14 t16) % 18446744073709551616) * 2 ^ shn .u64 n) % 18446744073709551616) ((carry) % 18446744073709551616)) % 4294967296]) (((ior .u64 ((((rd t14 t16) % 18446744073709551616) * 2 ^ shn .u64 n) % 18446744073709551616) ((carry) % 18446744073709551616)) / 4294967296) % 4294967296) t14 t15 (w64 (t16 + 1))) else none) else none) else none) else (if out.length + 1 ≤ 35184372088704 then (some (out ++ [carry])) else none)
noncomputable def Xi.hs : Nat → Xi.Hs
 | 0 => ⟨fun _ _ _ _ _ _ => none⟩
 | k + 1 => ⟨fun x0 x1 x2 x3 x4 x5 => Xi.b0 k (Xi.hs k) x0 x1 x2 x3 x4 x5⟩
noncomputable def Xi.f (k : Nat) (w : List Int) (n : Int) : Option (List Int) := (fun h : Xi.Hs => if 0 ≤ 0 ∧ 0 ≤ w64 ((w.length : Int) + 1) ∧ w64 ((w.length : Int) + 1) ≤ 70368744177664 then (h.l0 n (List.replicate (0 : Int).toNat (0 : Int)) 0 w (w.length : Int) 0) else none) (Xi.hs k)
structure Xi.LE (h h' : Xi.Hs) : Prop where
 l0 : ∀ y0 y1 y2 y3 y4 y5, LeO (h.l0 y0 y1 y2 y3 y4 y5) (h'.l0 y0 y1 y2 y3 y4 y5)
theorem Xi.b0_mono {k : Nat} {h h' : Xi.Hs} (hl : Xi.LE h h') : ∀ y0 y1 y2 y3 y4 y5, LeO (Xi.b0 k h y0 y1 y2 y3 y4 y5) (Xi.b0 (k + 1) h' y0 y1 y2 y3 y4 y5) := fun _ _ _ _ _ _ => (LeO.ite (LeO.ite (LeO.ite (LeO.ite (hl.l0 _ _ _ _ _ _) (LeO.refl _)) (LeO.refl _)) (LeO.refl _)) (LeO.ite (LeO.refl _) (LeO.refl _)))
theorem Xi.hs_mono : ∀ k, Xi.LE (Xi.hs k) (Xi.hs (k + 1))
 | 0 => ⟨fun _ _ _ _ _ _ => LeO.none _⟩
 | k + 1 => ⟨Xi.b0_mono (k := k) (Xi.hs_mono k)⟩
theorem Xi.mono : ∀ k y0 y1, LeO (Xi.f k y0 y1) (Xi.f (k + 1) y0 y1) := fun k _ _ => have hl := Xi.hs_mono k; by unfold Xi.f; exact (LeO.ite (hl.l0 _ _ _ _ _ _) (LeO.refl _))
noncomputable def Xi.Kl0 : List Item := .code (lopB (blkB (seqR (seqL (seqR (seqR (seqR Xi.C))))))) :: .inLoop (lopB (blkB (seqR (seqL (seqR (seqR (seqR Xi.C))))))) :: .inBlock 0 :: .code (seqR (seqR (seqR (seqR Xi.C)))) :: []
structure Xi.OK (h : Xi.Hs) : Prop where
 l0 : ∀ {H0 H : Hp} {L : Items} {r : (List Int)} {jk_ : Nat → Value} {n : Int} {out : List Int} {carry : Int} {t14 : List Int} {t15 : Int} {t16 : Int} {v_out : Value} {v_t14 : Value} {i_out : Item'} (_ : H0.le H) (_he : h.l0 n out carry t14 t15 t16 = some r) (_h_out : Sl kU32 H 167 i_out v_out out) (_h_t14 : Src kU32 H L v_t14 t14), Wp Tryz.prog 114 40 Xi.Kl0 (upd (upd (upd (upd (upd (upd (upd jk_ 1 (.int .i64 n)) 4 (.slice none 0 0)) 5 (v_out)) 6 (.int .u32 carry)) 14 (v_t14)) 15 (.int .i64 t15)) 16 (.int .i64 t16)) H (i_out :: L) (Xi.R H0 L r)
theorem Xi.b0_ok {k : Nat} {h : Xi.Hs} (hh : Xi.OK h) {H0 H : Hp} {L : Items} {r : (List Int)} {jk_ : Nat → Value} {n : Int} {out : List Int} {carry : Int} {t14 : List Int} {t15 t16 : Int} {v_out v_t14 : Value} {i_out : Item'} (hle : H0.le H) (he : Xi.b0 k h n out carry t14 t15 t16 = some r) (h_out : Sl kU32 H 167 i_out v_out out) (h_t14 : Src kU32 H L v_t14 t14) : Wp Tryz.prog 114 40 Xi.Kl0 (upd (upd (upd (upd (upd (upd (upd jk_ 1 (.int .i64 n)) 4 (.slice none 0 0)) 5 (v_out)) 6 (.int .u32 carry)) 14 (v_t14)) 15 (.int .i64 t15)) 16 (.int .i64 t16)) H (i_out :: L) (Xi.R H0 L r) := by
 unfold Xi.b0 at he
 unfold Xi.Kl0
 refine wR rfl <| w_d rfl (XG rfl rfl) <| wE ?_
 rcases its he with ⟨c5, he⟩ | ⟨c5, he⟩
 ·
  refine Qy rfl (dt c5) <| QA <| QV <| QU <| wR rfl <| rK he fun c6 he => w_d rfl (XM (sz := 1) Tryz.underlying22 sz167 rfl h_t14.th rfl c6) <| w_d rfl (XL ty167 rfl h_t14.th c6) <| wA (.int .u32 (rd t14 t16)) rfl rfl <| wE ?_
  refine QD rfl <| wM (.int .u32 (rd t14 t16)) rfl rfl <| w_d rfl (XY (c := (rd t14 t16) % 18446744073709551616) Tryz.underlying167 Tryz.underlying113 rfl rfl) <| wM (.int .i64 n) rfl rfl <| rK he fun c7 he => w_d rfl (Z9 (c := (((rd t14 t16) % 18446744073709551616) * 2 ^ shn .u64 n) % 18446744073709551616) rfl rfl c7 rfl) <| wM (.int .u32 carry) rfl rfl <| w_d rfl (XY (c := (carry) % 18446744073709551616) Tryz.underlying167 Tryz.underlying113 rfl rfl) <| w_d rfl (Js rfl rfl) <| wA (.int .u64 (ior .u64 ((((rd t14 t16) % 18446744073709551616) * 2 ^ shn .u64 n) % 18446744073709551616) ((carry) % 18446744073709551616))) rfl rfl <| wE ?_
  refine QD rfl <| wM v_out rfl rfl <| wM (.int .u64 (ior .u64 ((((rd t14 t16) % 18446744073709551616) * 2 ^ shn .u64 n) % 18446744073709551616) ((carry) % 18446744073709551616))) rfl rfl <| w_d rfl (XY (c := (ior .u64 ((((rd t14 t16) % 18446744073709551616) * 2 ^ shn .u64 n) % 18446744073709551616) ((carry) % 18446744073709551616)) % 4294967296) Tryz.underlying113 Tryz.underlying167 rfl rfl) <| w_a rfl (o_buildSlice' (kd := kU32) (css := [[.int .u32 ((ior .u64 ((((rd t14 t16) % 18446744073709551616) * 2 ^ shn .u64 n) % 18446744073709551616) ((carry) % 18446744073709551616)) % 4294967296)]]) (xs := [(ior .u64 ((((rd t14 t16) % 18446744073709551616) * 2 ^ shn .u64 n) % 18446744073709551616) ((carry) % 18446744073709551616)) % 4294967296]) (parts := [(0, .int .u32 ((ior .u64 ((((rd t14 t16) % 18446744073709551616) * 2 ^ shn .u64 n) % 18446744073709551616) ((carry) % 18446744073709551616)) % 4294967296))]) Tryz.underlying22 ti167 rfl ⟨_, _, rfl, rfl, rfl⟩ ⟨rfl, trivial⟩ rfl (by decide)) ?_
  rintro v8 _ _ ⟨i9, rfl, rfl, h10⟩
  refine rK he fun c11 he => w_a rfl (o_append' (kd := kU32) (F := fun z_ => i9 :: z_ :: L) Tryz.underlying22 Tryz.underlying22 ti167 rfl (by first | omega | (simp only [List.nil_append, List.length_cons, List.length_nil]; omega)) rfl rfl h_out (h10.src .here) (fun _ => .h1)) ?_
  rintro v12 _ _ ⟨i13, rfl, rfl, h14⟩
  refine wA v12 rfl rfl <| Qa <| QD rfl <| wM (.int .u64 (ior .u64 ((((rd t14 t16) % 18446744073709551616) * 2 ^ shn .u64 n) % 18446744073709551616) ((carry) % 18446744073709551616))) rfl rfl <| w_d rfl (Y0 (c := (ior .u64 ((((rd t14 t16) % 18446744073709551616) * 2 ^ shn .u64 n) % 18446744073709551616) ((carry) % 18446744073709551616)) / 4294967296) rfl rfl (by decide) rfl) <| w_d rfl (XY (c := ((ior .u64 ((((rd t14 t16) % 18446744073709551616) * 2 ^ shn .u64 n) % 18446744073709551616) ((carry) % 18446744073709551616)) / 4294967296) % 4294967296) Tryz.underlying113 Tryz.underlying167 rfl rfl) <| wA (.int .u32 (((ior .u64 ((((rd t14 t16) % 18446744073709551616) * 2 ^ shn .u64 n) % 18446744073709551616) ((carry) % 18446744073709551616)) / 4294967296) % 4294967296)) rfl rfl <| Qa <| Xk <| QD rfl <| w_d rfl (Xt (c := w64 (t16 + 1)) rfl rfl rfl) <| wM (.int .i64 (w64 (t16 + 1))) rfl rfl ?_
  refine Qa <| Xy <| YD .here <| w_sl 1 (.int .i64 n) rfl <| w_sl 4 (.slice none 0 0) rfl <| w_sl 5 (v12) rfl <| w_sl 6 (.int .u32 (((ior .u64 ((((rd t14 t16) % 18446744073709551616) * 2 ^ shn .u64 n) % 18446744073709551616) ((carry) % 18446744073709551616)) / 4294967296) % 4294967296)) rfl <| w_sl 14 (v_t14) rfl <| w_sl 15 (.int .i64 t15) rfl <| w_sl 16 (.int .i64 (w64 (t16 + 1))) rfl <| hh.l0 hle he h14 h_t14
 ·
  refine QB rfl (df c5) <| X1 rfl <| wR rfl <| wM v_out rfl rfl <| wM (.int .u32 carry) rfl rfl <| w_a rfl (o_buildSlice' (kd := kU32) (css := [[.int .u32 carry]]) (xs := [carry]) (parts := [(0, .int .u32 carry)]) Tryz.underlying22 ti167 rfl ⟨_, _, rfl, rfl, rfl⟩ ⟨rfl, trivial⟩ rfl (by decide)) ?_
  rintro v15 _ _ ⟨i16, rfl, rfl, h17⟩
  refine rK he fun c18 he => w_a rfl (o_append' (kd := kU32) (F := fun z_ => i16 :: z_ :: L) Tryz.underlying22 Tryz.underlying22 ti167 rfl (by first | omega | (simp only [List.nil_append, List.length_cons, List.length_nil]; omega)) rfl rfl h_out (h17.src .here) (fun _ => .h1)) ?_
  rintro v19 _ _ ⟨i20, rfl, rfl, h21⟩
  refine wA v19 rfl rfl <| Qa ?_
  obtain rfl := sj he
  refine YD .here <| Qi fn_114 rs_114 (.tmp (v := v19) rfl .nil) <| ⟨⟨[], _, rfl, h21⟩, hle⟩
theorem Xi.ok : ∀ k, Xi.OK (Xi.hs k)
 | 0 => ⟨(by intros; exact nomatch (show none = some _ from by assumption))⟩
 | k + 1 => ⟨Xi.b0_ok (k := k) (Xi.ok k)⟩
theorem Xi.calls (k : Nat) {H : Hp} {L : Items} {w : List Int} {n : Int} {v0_w : Value} {r : (List Int)} (he : Xi.f k w n = some r) (h0_w : Src kU32 H L v0_w w) : Ct Tryz.prog 114 ⟨[v0_w, .int .i64 n]⟩ H L (fun v H' L' => ∃ it, L' = it :: L ∧ H.le H' ∧ Sl kU32 H' 167 it v r) := by
 refine Vm ?_
 have hle : H.le H := .refl _
 have hh := Xi.ok k
 unfold Xi.f at he
 refine QP (args := [_, _]) fn_114 rfl nt_114 rfl <| wR rfl <| wA (.slice none 0 0) rfl rfl <| wQ rfl <| wM v0_w rfl rfl <| w_d rfl (Xq Tryz.underlying22 rfl h0_w) <| w_d rfl (Xt (c := w64 ((w.length : Int) + 1)) rfl rfl rfl) <| rK he fun c1 he => w_a rfl (o_make' (kd := kU32) (z0 := 0) Tryz.underlying22 ti167 (zp167 _) rfl rfl (by omega) (by omega) (by omega)) ?_
 rintro v2 _ _ ⟨i3, rfl, rfl, h4⟩
 refine wA v2 rfl rfl <| wQ rfl <| wA (.int .u32 0) rfl rfl <| wE <| wR rfl <| wM v0_w rfl rfl <| w_d rfl (Xq Tryz.underlying22 rfl h0_w.th) <| wM (.int .i64 0) rfl rfl ?_
 refine Qa <| QU <| X3 <| w_sl 1 (.int .i64 n) rfl <| w_sl 4 (.slice none 0 0) rfl <| w_sl 5 (v2) rfl <| w_sl 6 (.int .u32 0) rfl <| w_sl 14 (v0_w) rfl <| w_sl 15 (.int .i64 (w.length : Int)) rfl <| w_sl 16 (.int .i64 0) rfl <| hh.l0 hle he h4 h0_w
theorem Xi.callsR (k : Nat) {H : Hp} {L : Items} {w : List Int} {n : Int} {v0_w : Value} {r : (List Int)} (he : Xi.f k w n = some r) (h0_w : Src kU32 H L v0_w w) : Ct Tryz.prog 114 ⟨[v0_w, .int .i64 n]⟩ H L (cR H L (Xi.out r)) := Wh (Xi.calls k he h0_w)
end Go.Proofs.YtkccpkccdbfomaaGreatDoor.GBH

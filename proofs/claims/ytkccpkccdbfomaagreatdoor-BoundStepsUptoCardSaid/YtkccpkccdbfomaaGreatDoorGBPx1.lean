/- printed by gen.py -/
import Derived.Test.YtkccpkccdbfomaaGreatDoorGBPx0
namespace Go.Proofs.YtkccpkccdbfomaaGreatDoor.GBP
open Go Go.RowKit Go.Proofs.YtkccpkccdbfomaaGreatDoorK Go.Proofs.YtkccpkccdbfomaaGreatDoor
set_option maxRecDepth 100000
set_option maxHeartbeats 2000000
set_option linter.unusedVariables false
set_option linter.unusedSimpArgs false
noncomputable def X7.C : Code := (Tryz.f154.body).getD .skip
def X7.out (r : Int) (H : Hp) (v : Value) : Prop := v = .int .i64 r
noncomputable def X7.f (k : Nat) (x y : Int) : Option Int := (X8.f k x).bind fun y1 => (X8.f k y).bind fun y5 => if y1 = true then (if y5 = true then (some (0)) else (some ((-1)))) else (if y5 = true then (some (1)) else (if x < y then (some ((-1))) else (if y < x then (some (1)) else (some (0)))))
theorem X7.mono : ∀ k y0 y1, LeO (X7.f k y0 y1) (X7.f (k + 1) y0 y1) := fun k _ _ => by unfold X7.f; exact (LeO.bind (X8.mono k _) fun _ => LeO.bind (X8.mono k _) fun _ => LeO.ite (LeO.ite (LeO.refl _) (LeO.refl _)) (LeO.ite (LeO.refl _) (LeO.ite (LeO.refl _) (LeO.ite (LeO.refl _) (LeO.refl _)))))
theorem X7.calls (k : Nat) {H : Hp} {L : Items} {x y r : Int} (he : X7.f k x y = some r) : Ct Tryz.prog 154 ⟨[.int .u32 x, .int .u32 y]⟩ H L (fun v H' L' => L = L' ∧ H = H' ∧ v = .int .i64 r) := by
 refine Yp (O := X7.out r) (fun _ _ h => h) ?_
 have hle : H.le H := .refl _
 unfold X7.f at he
 refine QV (args := [_, _]) fn_154 rfl nt_154 rfl <| wR rfl <| wA (.int .i64 0) rfl rfl <| wQ rfl <| wM (.int .u32 x) rfl rfl <| bK he fun y1 hy2 he => w_d rfl (Xx (Qm co166 (vs := [.int .u32 x]) rfl (X8.calls k hy2))) <| wA (.bool y1) rfl rfl <| Qb ?_
 refine wR rfl <| wM (.int .u32 y) rfl rfl <| bK he fun y5 hy6 he => w_d rfl (Xx (Qm co166 (vs := [.int .u32 y]) rfl (X8.calls k hy6))) <| wA (.bool y5) rfl rfl <| wE <| wR rfl <| wM (.bool y1) rfl rfl <| Qb ?_
 rcases its he with ⟨c9, he⟩ | ⟨c9, he⟩
 ·
  refine QD rfl c9 <| QX <| wR rfl <| wM (.bool y5) rfl rfl <| Qb ?_
  rcases its he with ⟨c10, he⟩ | ⟨c10, he⟩
  ·
   refine QD rfl c10 <| wR rfl <| wA (.int .i64 0) rfl rfl <| Qb ?_
   obtain rfl := sj he
   refine Ql fn_154 rs_154 (.tmp (v := .int .i64 0) rfl .nil) <| ⟨⟨[], rfl⟩, hle, rfl⟩
  ·
   refine QE rfl (Bool.eq_false_iff.2 c10) <| QF <| wR rfl <| wA (.int .i64 (-1)) rfl rfl <| Qb ?_
   obtain rfl := sj he
   refine Ql fn_154 rs_154 (.tmp (v := .int .i64 (-1)) rfl .nil) <| ⟨⟨[], rfl⟩, hle, rfl⟩
 ·
  refine QE rfl (Bool.eq_false_iff.2 c9) <| QF <| QX <| wR rfl <| wM (.bool y5) rfl rfl <| Qb ?_
  rcases its he with ⟨c11, he⟩ | ⟨c11, he⟩
  ·
   refine QD rfl c11 <| wR rfl <| wA (.int .i64 1) rfl rfl <| Qb ?_
   obtain rfl := sj he
   refine Ql fn_154 rs_154 (.tmp (v := .int .i64 1) rfl .nil) <| ⟨⟨[], rfl⟩, hle, rfl⟩
  ·
   refine QE rfl (Bool.eq_false_iff.2 c11) <| QF <| QX <| wR rfl <| wM (.int .u32 x) rfl rfl <| wM (.int .u32 y) rfl rfl <| w_d rfl (XW rfl rfl) <| Qb ?_
   rcases its he with ⟨c12, he⟩ | ⟨c12, he⟩
   ·
    refine QD rfl (dt c12) <| wR rfl <| wA (.int .i64 (-1)) rfl rfl <| Qb ?_
    obtain rfl := sj he
    refine Ql fn_154 rs_154 (.tmp (v := .int .i64 (-1)) rfl .nil) <| ⟨⟨[], rfl⟩, hle, rfl⟩
   ·
    refine QE rfl (df c12) <| QF <| QX <| wR rfl <| wM (.int .u32 x) rfl rfl <| wM (.int .u32 y) rfl rfl <| w_d rfl (YV rfl rfl) <| Qb ?_
    rcases its he with ⟨c13, he⟩ | ⟨c13, he⟩
    ·
     refine QD rfl (dt c13) <| wR rfl <| wA (.int .i64 1) rfl rfl <| Qb ?_
     obtain rfl := sj he
     refine Ql fn_154 rs_154 (.tmp (v := .int .i64 1) rfl .nil) <| ⟨⟨[], rfl⟩, hle, rfl⟩
    ·
     refine QE rfl (df c13) <| QF <| wR rfl <| wA (.int .i64 0) rfl rfl <| Qb ?_
     obtain rfl := sj he
     refine Ql fn_154 rs_154 (.tmp (v := .int .i64 0) rfl .nil) <| ⟨⟨[], rfl⟩, hle, rfl⟩
noncomputable def Q4.C : Code := (Tryz.f137.body).getD .skip
def Q4.out (r : Int) (H : Hp) (v : Value) : Prop := v = .int .i64 r
abbrev Q4.R (H0 : Hp) (L : Items) (r : Int) := fR H0 L (Q4.out r)
structure Q4.Hs where
 l0 : (List Int) → (List Int) → Int → Int → Option Int
noncomputable def Q4.b0 (k : Nat) (h : Q4.Hs) (a b : List Int) (t4 i : Int) : Option Int := if 0 ≤ i then (if (0 : Int) ≤ i ∧ i < (a.length : Int) then (if (0 : Int) ≤ i ∧ i < (b.length : Int) then ((X7.f k (rd a i) (rd b i)).bind fun y11 => if y11 = 0 then (h.l0 a b t4 (w64 (i - 1))) else (some (y11))) else none) else none) else (some (0))
noncomputable def Q4.hs : Nat → Q4.Hs
 | 0 => ⟨fun _ _ _ _ => none⟩
 | k + 1 => ⟨fun x0 x1 x2 x3 => Q4.b0 k (Q4.hs k) x0 x1 x2 x3⟩
noncomputable def Q4.f (k : Nat) (a b : List Int) : Option Int := (fun h : Q4.Hs => (Yc.f k (a.length : Int) (b.length : Int)).bind fun y1 => if y1 = 0 then (h.l0 a b 0 (w64 ((a.length : Int) - 1))) else (some (y1))) (Q4.hs k)
structure Q4.LE (h h' : Q4.Hs) : Prop where
 l0 : ∀ y0 y1 y2 y3, LeO (h.l0 y0 y1 y2 y3) (h'.l0 y0 y1 y2 y3)
theorem Q4.b0_mono {k : Nat} {h h' : Q4.Hs} (hl : Q4.LE h h') : ∀ y0 y1 y2 y3, LeO (Q4.b0 k h y0 y1 y2 y3) (Q4.b0 (k + 1) h' y0 y1 y2 y3) := fun _ _ _ _ => (LeO.ite (LeO.ite (LeO.ite (LeO.bind (X7.mono k _ _) fun _ => LeO.ite (hl.l0 _ _ _ _) (LeO.refl _)) (LeO.refl _)) (LeO.refl _)) (LeO.refl _))
theorem Q4.hs_mono : ∀ k, Q4.LE (Q4.hs k) (Q4.hs (k + 1))
 | 0 => ⟨fun _ _ _ _ => LeO.none _⟩
 | k + 1 => ⟨Q4.b0_mono (k := k) (Q4.hs_mono k)⟩
theorem Q4.mono : ∀ k y0 y1, LeO (Q4.f k y0 y1) (Q4.f (k + 1) y0 y1) := fun k _ _ => have hl := Q4.hs_mono k; by unfold Q4.f; exact (LeO.bind (Yc.mono k _ _) fun _ => LeO.ite (hl.l0 _ _ _ _) (LeO.refl _))
noncomputable def Q4.Kl0 : List Item := .code (lopB (blkB (seqR (seqL (seqR (seqR Q4.C)))))) :: .inLoop (lopB (blkB (seqR (seqL (seqR (seqR Q4.C)))))) :: .inBlock 0 :: .code (seqR (seqR (seqR Q4.C))) :: []
structure Q4.OK (h : Q4.Hs) : Prop where
 l0 : ∀ {H0 H : Hp} {L : Items} {r : Int} {jk_ : Nat → Value} {a : List Int} {b : List Int} {t4 : Int} {i : Int} {v_a : Value} {v_b : Value} (_ : H0.le H) (_he : h.l0 a b t4 i = some r) (_h_a : Src kU32 H L v_a a) (_h_b : Src kU32 H L v_b b), Wp Tryz.prog 137 35 Q4.Kl0 (upd (upd (upd (upd jk_ 0 (v_a)) 1 (v_b)) 4 (.int .i64 t4)) 6 (.int .i64 i)) H (L) (Q4.R H0 L r)
theorem Q4.b0_ok {k : Nat} {h : Q4.Hs} (hh : Q4.OK h) {H0 H : Hp} {L : Items} {r : Int} {jk_ : Nat → Value} {a b : List Int} {t4 i : Int} {v_a v_b : Value} (hle : H0.le H) (he : Q4.b0 k h a b t4 i = some r) (h_a : Src kU32 H L v_a a) (h_b : Src kU32 H L v_b b) : Wp Tryz.prog 137 35 Q4.Kl0 (upd (upd (upd (upd jk_ 0 (v_a)) 1 (v_b)) 4 (.int .i64 t4)) 6 (.int .i64 i)) H (L) (Q4.R H0 L r) := by
 unfold Q4.b0 at he
 unfold Q4.Kl0
 refine QX <| wR rfl <| wM (.int .i64 i) rfl rfl <| w_d rfl (ZO rfl rfl) <| Qb ?_
 rcases its he with ⟨c6, he⟩ | ⟨c6, he⟩
 ·
  refine QD rfl (dt c6) <| QF <| QX <| Q2 <| QX <| rK he fun c7 he => rK he fun c8 he => XC (p := 8) (tl := [8, 9]) [[], [], [(0, some 23), (1, some 24)], [(2, some 25)], [], [], [(4, some 27), (5, some 28)], [(6, some 29)]] [some 23, some 24, some 25, some 26, some 27, some 28, some 29, some 30] (fctF (.is (v_a) :: .is (.int .i64 i) :: .is (.pointer (some (pel v_a i 1))) :: .is (.int .u32 (rd a i)) :: .is (v_b) :: .is (.int .i64 i) :: .is (.pointer (some (pel v_b i 1))) :: .is (.int .u32 (rd b i)) :: [])) (fun m_ => L) (fun _ => none) mixed (by kernel_rfl) (by kernel_rfl) rfl (Xq (by kernel_rfl)) ⟨(fun H' m_ hH hm_ hu_ => dn <| s_d (m_ 0) rfl (QT (v := v_a) rfl) (by exact rfl) rfl), (fun H' m_ hH hm_ hu_ => dn <| s_d (m_ 1) rfl (QT (v := .int .i64 i) rfl) (by exact rfl) rfl), (by rintro H' m_ hH hm_ hu_ _ rfl _ rfl; exact dn <| s_d (m_ 2) rfl (XA (sz := 1) Tryz.underlying22 sz167 rfl (h_a.mono hH) rfl c7) (by exact rfl) rfl), (by rintro H' m_ hH hm_ hu_ _ rfl; exact dn <| s_d (m_ 3) rfl (XR ty167 rfl (h_a.mono hH) c7) (by exact rfl) rfl), (fun H' m_ hH hm_ hu_ => dn <| s_d (m_ 4) rfl (QT (v := v_b) rfl) (by exact rfl) rfl), (fun H' m_ hH hm_ hu_ => dn <| s_d (m_ 5) rfl (QT (v := .int .i64 i) rfl) (by exact rfl) rfl), (by rintro H' m_ hH hm_ hu_ _ rfl _ rfl; exact dn <| s_d (m_ 6) rfl (XA (sz := 1) Tryz.underlying22 sz167 rfl (h_b.mono hH) rfl c8) (by exact rfl) rfl), (by rintro H' m_ hH hm_ hu_ _ rfl; exact dn <| s_d (m_ 7) rfl (XR ty167 rfl (h_b.mono hH) c8) (by exact rfl) rfl), trivial⟩ ?_
  intro H9 e10
  rintro _ _ rfl _ _ rfl _ _ rfl _ _ rfl _ _ rfl _ _ rfl _ _ rfl _ _ rfl
  refine bK he fun y11 hy12 he => w_d rfl (Xx (Qm co154 (vs := [.int .u32 (rd a i), .int .u32 (rd b i)]) rfl (X7.calls k hy12))) <| wA (.int .i64 y11) rfl rfl <| wQ rfl <| wM (.int .i64 y11) rfl rfl <| w_d rfl (Zl rfl rfl) <| Qb ?_
  rcases its he with ⟨c15, he⟩ | ⟨c15, he⟩
  ·
   refine QE rfl (nd_t c15) <| QF <| Xw <| QL rfl <| wM (.int .i64 i) rfl rfl <| w_d rfl (YE (c := w64 (i - 1)) rfl rfl rfl) <| wA (.int .i64 (w64 (i - 1))) rfl rfl <| Qb <| XG <| w_sl 0 (v_a) rfl <| w_sl 1 (v_b) rfl <| w_sl 4 (.int .i64 t4) rfl ?_
   refine w_sl 6 (.int .i64 (w64 (i - 1))) rfl <| hh.l0 (hle.trans e10) he (h_a.mono e10) (h_b.mono e10)
  ·
   refine QD rfl (nd_f c15) <| wR rfl <| wM (.int .i64 y11) rfl rfl <| wA (.int .i64 y11) rfl rfl <| Qb ?_
   obtain rfl := sj he
   refine Ql fn_137 rs_137 (.tmp (v := .int .i64 y11) rfl .nil) <| ⟨⟨[], rfl⟩, hle.trans e10, rfl⟩
 ·
  refine QE rfl (df c6) <| X3 rfl <| wR rfl <| wA (.int .i64 0) rfl rfl <| Qb ?_
  obtain rfl := sj he
  refine Ql fn_137 rs_137 (.tmp (v := .int .i64 0) rfl .nil) <| ⟨⟨[], rfl⟩, hle, rfl⟩
theorem Q4.ok : ∀ k, Q4.OK (Q4.hs k)
 | 0 => ⟨(by intros; exact nomatch (show none = some _ from by assumption))⟩
 | k + 1 => ⟨Q4.b0_ok (k := k) (Q4.ok k)⟩
theorem Q4.calls (k : Nat) {H : Hp} {L : Items} {a b : List Int} {v0_a v1_b : Value} {r : Int} (he : Q4.f k a b = some r) (h0_a : Src kU32 H L v0_a a) (h1_b : Src kU32 H L v1_b b) : Ct Tryz.prog 137 ⟨[v0_a, v1_b]⟩ H L (fun v H' L' => L = L' ∧ H = H' ∧ v = .int .i64 r) := by
 refine Yp (O := Q4.out r) (fun _ _ h => h) ?_
 have hle : H.le H := .refl _
 have hh := Q4.ok k
 unfold Q4.f at he
 refine QV (args := [_, _]) fn_137 rfl nt_137 rfl <| wR rfl <| wA (.int .i64 0) rfl rfl <| wE <| wR rfl <| wM v0_a rfl rfl <| w_d rfl (Xo Tryz.underlying22 rfl h0_a) <| wM v1_b rfl rfl <| w_d rfl (Xo Tryz.underlying22 rfl h1_b) ?_
 refine bK he fun y1 hy2 he => w_d rfl (Xx (Qm co136 (vs := [.int .i64 (a.length : Int), .int .i64 (b.length : Int)]) rfl (Yc.calls k hy2))) <| wA (.int .i64 y1) rfl rfl <| wQ rfl <| wM (.int .i64 y1) rfl rfl <| w_d rfl (Zl rfl rfl) <| Qb ?_
 rcases its he with ⟨c5, he⟩ | ⟨c5, he⟩
 ·
  refine QE rfl (nd_t c5) <| QF <| QX <| wR rfl <| wM v0_a rfl rfl <| w_d rfl (Xo Tryz.underlying22 rfl h0_a) <| w_d rfl (YE (c := w64 ((a.length : Int) - 1)) rfl rfl rfl) <| wA (.int .i64 (w64 ((a.length : Int) - 1))) rfl rfl <| Qb <| Q2 <| X5 ?_
  refine w_sl 0 (v0_a) rfl <| w_sl 1 (v1_b) rfl <| w_sl 4 (.int .i64 0) rfl <| w_sl 6 (.int .i64 (w64 ((a.length : Int) - 1))) rfl <| hh.l0 hle he h0_a h1_b
 ·
  refine QD rfl (nd_f c5) <| wR rfl <| wM (.int .i64 y1) rfl rfl <| wA (.int .i64 y1) rfl rfl <| Qb ?_
  obtain rfl := sj he
  refine Ql fn_137 rs_137 (.tmp (v := .int .i64 y1) rfl .nil) <| ⟨⟨[], rfl⟩, hle, rfl⟩
noncomputable def YP.C : Code := (Tryz.f159.body).getD .skip
def YP.out (r : Int × Int) (H : Hp) (v : Value) : Prop := v = .tuple ⟨[.int .u32 r.1, .int .u32 r.2]⟩
noncomputable def YP.f (k : Nat) (x y borrow : Int) : Option (Int × Int) := some ((((x - y) % 4294967296) - borrow) % 4294967296, (ior .u32 (iand .u32 (ixor .u32 4294967295 x) y) (iand .u32 (ixor .u32 4294967295 (ixor .u32 x y)) ((((x - y) % 4294967296) - borrow) % 4294967296))) / 2147483648)
theorem YP.mono : ∀ k y0 y1 y2, LeO (YP.f k y0 y1 y2) (YP.f (k + 1) y0 y1 y2) := fun k _ _ _ => by unfold YP.f; exact (LeO.refl _)
theorem YP.calls (k : Nat) {H : Hp} {L : Items} {x y borrow : Int} {r : Int × Int} (he : YP.f k x y borrow = some r) : Ct Tryz.prog 159 ⟨[.int .u32 x, .int .u32 y, .int .u32 borrow]⟩ H L (fun v H' L' => L = L' ∧ H = H' ∧ v = .tuple ⟨[.int .u32 r.1, .int .u32 r.2]⟩) := by
 refine Yp (O := YP.out r) (fun _ _ h => h) ?_
 have hle : H.le H := .refl _
 unfold YP.f at he
 refine QV (args := [_, _, _]) fn_159 rfl nt_159 rfl <| wR rfl <| wA (.int .u32 0) rfl rfl <| wA (.int .u32 0) rfl rfl <| wQ rfl <| wM (.int .u32 x) rfl rfl <| wM (.int .u32 y) rfl rfl <| w_d rfl (YE (c := (x - y) % 4294967296) rfl rfl rfl) <| wM (.int .u32 borrow) rfl rfl ?_
 refine w_d rfl (YE (c := (((x - y) % 4294967296) - borrow) % 4294967296) rfl rfl rfl) <| wA (.int .u32 ((((x - y) % 4294967296) - borrow) % 4294967296)) rfl rfl <| wQ rfl <| wM (.int .u32 x) rfl rfl <| w_d rfl (Wj rfl) <| wM (.int .u32 y) rfl rfl <| w_d rfl (Nz rfl rfl) <| wM (.int .u32 x) rfl rfl <| wM (.int .u32 y) rfl rfl <| w_d rfl (Qar rfl rfl) ?_
 refine w_d rfl (Wj rfl) <| wM (.int .u32 ((((x - y) % 4294967296) - borrow) % 4294967296)) rfl rfl <| w_d rfl (Nz rfl rfl) <| w_d rfl (Gu rfl rfl) <| w_d rfl (Jb (c := (ior .u32 (iand .u32 (ixor .u32 4294967295 x) y) (iand .u32 (ixor .u32 4294967295 (ixor .u32 x y)) ((((x - y) % 4294967296) - borrow) % 4294967296))) / 2147483648) rfl rfl (by decide) rfl) <| wA (.int .u32 ((ior .u32 (iand .u32 (ixor .u32 4294967295 x) y) (iand .u32 (ixor .u32 4294967295 (ixor .u32 x y)) ((((x - y) % 4294967296) - borrow) % 4294967296))) / 2147483648)) rfl rfl <| Qb ?_
 obtain rfl := sj he
 refine Ql fn_159 rs_159 (.tmp (v := .int .u32 ((((x - y) % 4294967296) - borrow) % 4294967296)) rfl (.tmp (v := .int .u32 ((ior .u32 (iand .u32 (ixor .u32 4294967295 x) y) (iand .u32 (ixor .u32 4294967295 (ixor .u32 x y)) ((((x - y) % 4294967296) - borrow) % 4294967296))) / 2147483648)) rfl .nil)) <| ⟨⟨[], rfl⟩, hle, rfl⟩
noncomputable def QI.C : Code := (Tryz.f143.body).getD .skip
abbrev QI.out (r : (List Int)) (H : Hp) (v : Value) : Prop := Ro kU32 H v r
abbrev QI.R (H0 : Hp) (L : Items) (r : (List Int)) := fR H0 L (QI.out r)
structure QI.Hs where
 l0 : (List Int) → (List Int) → Int → (List Int) → Int → Int → Option (List Int)
noncomputable def QI.j2 (k : Nat) (h : QI.Hs) (b out : List Int) (borrow x y : Int) (t14 : List Int) (t15 t16 : Int) : Option (List Int) := (YP.f k x y borrow).bind fun y18 => if out.length + 1 ≤ 35184372088704 then (h.l0 b (out ++ [y18.1]) y18.2 t14 t15 (w64 (t16 + 1))) else none
noncomputable def QI.b0 (k : Nat) (h : QI.Hs) (b out : List Int) (borrow : Int) (t14 : List Int) (t15 t16 : Int) : Option (List Int) := if t16 < t15 then (if (0 : Int) ≤ t16 ∧ t16 < (t14.length : Int) then (if t16 < (b.length : Int) then (if (0 : Int) ≤ t16 ∧ t16 < (b.length : Int) then (QI.j2 k h b out borrow (rd t14 t16) (rd b t16) t14 t15 t16) else none) else (QI.j2 k h b out borrow (rd t14 t16) 0 t14 t15 t16)) else none) else ((QU.f k out).bind fun y12 => some (y12))
noncomputable def QI.hs : Nat → QI.Hs
 | 0 => ⟨fun _ _ _ _ _ _ => none⟩
 | k + 1 => ⟨fun x0 x1 x2 x3 x4 x5 => QI.b0 k (QI.hs k) x0 x1 x2 x3 x4 x5⟩
noncomputable def QI.f (k : Nat) (a b : List Int) : Option (List Int) := (fun h : QI.Hs => if 0 ≤ 0 ∧ 0 ≤ (a.length : Int) ∧ (a.length : Int) ≤ 70368744177664 then (h.l0 b (List.replicate (0 : Int).toNat (0 : Int)) 0 a (a.length : Int) 0) else none) (QI.hs k)
structure QI.LE (h h' : QI.Hs) : Prop where
 l0 : ∀ y0 y1 y2 y3 y4 y5, LeO (h.l0 y0 y1 y2 y3 y4 y5) (h'.l0 y0 y1 y2 y3 y4 y5)
theorem QI.j2_mono {k : Nat} {h h' : QI.Hs} (hl : QI.LE h h') : ∀ y0 y1 y2 y3 y4 y5 y6 y7, LeO (QI.j2 k h y0 y1 y2 y3 y4 y5 y6 y7) (QI.j2 (k + 1) h' y0 y1 y2 y3 y4 y5 y6 y7) := fun _ _ _ _ _ _ _ _ => (LeO.bind (YP.mono k _ _ _) fun _ => LeO.ite (hl.l0 _ _ _ _ _ _) (LeO.refl _))
theorem QI.b0_mono {k : Nat} {h h' : QI.Hs} (hl : QI.LE h h') : ∀ y0 y1 y2 y3 y4 y5, LeO (QI.b0 k h y0 y1 y2 y3 y4 y5) (QI.b0 (k + 1) h' y0 y1 y2 y3 y4 y5) := fun _ _ _ _ _ _ => (LeO.ite (LeO.ite (LeO.ite (LeO.ite (QI.j2_mono (k := k) hl _ _ _ _ _ _ _ _) (LeO.refl _)) (QI.j2_mono (k := k) hl _ _ _ _ _ _ _ _)) (LeO.refl _)) (LeO.bind (QU.mono k _) fun _ => LeO.refl _))
theorem QI.hs_mono : ∀ k, QI.LE (QI.hs k) (QI.hs (k + 1))
 | 0 => ⟨fun _ _ _ _ _ _ => LeO.none _⟩
 | k + 1 => ⟨QI.b0_mono (k := k) (QI.hs_mono k)⟩
theorem QI.mono : ∀ k y0 y1, LeO (QI.f k y0 y1) (QI.f (k + 1) y0 y1) := fun k _ _ => have hl := QI.hs_mono k; by unfold QI.f; exact (LeO.ite (hl.l0 _ _ _ _ _ _) (LeO.refl _))
noncomputable def QI.Kl0 : List Item := .code (lopB (blkB (seqR (seqL (seqR (seqR (seqR QI.C))))))) :: .inLoop (lopB (blkB (seqR (seqL (seqR (seqR (seqR QI.C))))))) :: .inBlock 0 :: .code (seqR (seqR (seqR (seqR QI.C)))) :: []
noncomputable def QI.Kj2 : List Item := .code (seqR (seqR (seqR (blkB (seqL (seqR (seqR (lopB (blkB (seqR (seqL (seqR (seqR (seqR QI.C)))))))))))))) :: .inBlock 1 :: .code (seqR (seqR (seqR (lopB (blkB (seqR (seqL (seqR (seqR (seqR QI.C)))))))))) :: .inLoop (lopB (blkB (seqR (seqL (seqR (seqR (seqR QI.C))))))) :: .inBlock 0 :: .code (seqR (seqR (seqR (seqR QI.C)))) :: []
structure QI.OK (h : QI.Hs) : Prop where
 l0 : ∀ {H0 H : Hp} {L : Items} {r : (List Int)} {jk_ : Nat → Value} {b : List Int} {out : List Int} {borrow : Int} {t14 : List Int} {t15 : Int} {t16 : Int} {v_b : Value} {v_out : Value} {v_t14 : Value} {i_out : Item'} (_ : H0.le H) (_he : h.l0 b out borrow t14 t15 t16 = some r) (_h_b : Src kU32 H L v_b b) (_h_out : Sl kU32 H 167 i_out v_out out) (_h_t14 : Src kU32 H L v_t14 t14), Wp Tryz.prog 143 43 QI.Kl0 (upd (upd (upd (upd (upd (upd (upd jk_ 1 (v_b)) 4 (.slice none 0 0)) 5 (v_out)) 6 (.int .u32 borrow)) 14 (v_t14)) 15 (.int .i64 t15)) 16 (.int .i64 t16)) H (i_out :: L) (QI.R H0 L r)
theorem QI.j2_ok {k : Nat} {h : QI.Hs} (hh : QI.OK h) {H0 H : Hp} {L : Items} {r : (List Int)} {jk_ : Nat → Value} {b out : List Int} {borrow x y : Int} {t14 : List Int} {t15 t16 : Int} {v_b v_out v_t14 : Value} {i_out : Item'} (hle : H0.le H) (he : QI.j2 k h b out borrow x y t14 t15 t16 = some r) (h_b : Src kU32 H L v_b b) (h_out : Sl kU32 H 167 i_out v_out out) (h_t14 : Src kU32 H L v_t14 t14) : Wp Tryz.prog 143 43 QI.Kj2 (upd (upd (upd (upd (upd (upd (upd (upd (upd jk_ 1 (v_b)) 4 (.slice none 0 0)) 5 (v_out)) 6 (.int .u32 borrow)) 8 (.int .u32 x)) 9 (.int .u32 y)) 14 (v_t14)) 15 (.int .i64 t15)) 16 (.int .i64 t16)) H (i_out :: L) (QI.R H0 L r) := by
 unfold QI.j2 at he
 unfold QI.Kj2
 refine wR rfl <| wA (.int .u32 0) rfl rfl <| wQ rfl <| wM (.int .u32 x) rfl rfl <| wM (.int .u32 y) rfl rfl <| wM (.int .u32 borrow) rfl rfl <| bK he fun y18 hy19 he => w_d rfl (Xx (Qm co159 (vs := [.int .u32 x, .int .u32 y, .int .u32 borrow]) rfl (YP.calls k hy19))) <| wM (.tuple ⟨[.int .u32 y18.1, .int .u32 y18.2]⟩) rfl rfl ?_
 refine w_d rfl (Q5 rfl rfl) <| w_d rfl (Q5 rfl rfl) <| wA (.int .u32 y18.1) rfl rfl <| wA (.int .u32 y18.2) rfl rfl <| Qb <| QL rfl <| wM v_out rfl rfl <| wM (.int .u32 y18.1) rfl rfl <| w_a rfl (o_buildSlice' (kd := kU32) (css := [[.int .u32 y18.1]]) (xs := [y18.1]) (parts := [(0, .int .u32 y18.1)]) Tryz.underlying22 ti167 rfl ⟨_, _, rfl, rfl, rfl⟩ ⟨rfl, trivial⟩ rfl (by decide)) ?_
 rintro v22 _ _ ⟨i23, rfl, rfl, h24⟩
 refine rK he fun c25 he => w_a rfl (o_append' (kd := kU32) (F := fun z_ => i23 :: z_ :: L) Tryz.underlying22 Tryz.underlying22 ti167 rfl (by first | omega | (simp only [List.nil_append, List.length_cons, List.length_nil]; omega)) rfl rfl h_out (h24.src .here) (fun _ => .h1)) ?_
 rintro v26 _ _ ⟨i27, rfl, rfl, h28⟩
 refine wA v26 rfl rfl <| Qb <| Xw <| QL rfl <| w_d rfl (XQ (c := w64 (t16 + 1)) rfl rfl rfl) <| wM (.int .i64 (w64 (t16 + 1))) rfl rfl <| Qb <| XG <| Yu .here <| w_sl 1 (v_b) rfl <| w_sl 4 (.slice none 0 0) rfl <| w_sl 5 (v26) rfl ?_
 refine w_sl 6 (.int .u32 y18.2) rfl <| w_sl 14 (v_t14) rfl <| w_sl 15 (.int .i64 t15) rfl <| w_sl 16 (.int .i64 (w64 (t16 + 1))) rfl <| hh.l0 hle he h_b h28 h_t14
theorem QI.b0_ok {k : Nat} {h : QI.Hs} (hh : QI.OK h) {H0 H : Hp} {L : Items} {r : (List Int)} {jk_ : Nat → Value} {b out : List Int} {borrow : Int} {t14 : List Int} {t15 t16 : Int} {v_b v_out v_t14 : Value} {i_out : Item'} (hle : H0.le H) (he : QI.b0 k h b out borrow t14 t15 t16 = some r) (h_b : Src kU32 H L v_b b) (h_out : Sl kU32 H 167 i_out v_out out) (h_t14 : Src kU32 H L v_t14 t14) : Wp Tryz.prog 143 43 QI.Kl0 (upd (upd (upd (upd (upd (upd (upd jk_ 1 (v_b)) 4 (.slice none 0 0)) 5 (v_out)) 6 (.int .u32 borrow)) 14 (v_t14)) 15 (.int .i64 t15)) 16 (.int .i64 t16)) H (i_out :: L) (QI.R H0 L r) := by
 unfold QI.b0 at he
 unfold QI.Kl0
 refine wR rfl <| w_d rfl (XW rfl rfl) <| wE ?_
 rcases its he with ⟨c5, he⟩ | ⟨c5, he⟩
 ·
  refine QD rfl (dt c5) <| QF <| QX <| Q2 <| wR rfl <| wM (.int .i64 t16) rfl rfl <| rK he fun c6 he => w_d rfl (XA (sz := 1) Tryz.underlying22 sz167 rfl h_t14.th rfl c6) <| w_d rfl (XR ty167 rfl h_t14.th c6) <| wA (.int .i64 t16) rfl rfl <| wA (.int .u32 (rd t14 t16)) rfl rfl ?_
  refine wQ rfl <| wA (.int .u32 0) rfl rfl <| wE <| wR rfl <| wM (.int .i64 t16) rfl rfl <| wM v_b rfl rfl <| w_d rfl (Xo Tryz.underlying22 rfl h_b.th) <| w_d rfl (XW rfl rfl) ?_
  refine Qb ?_
  rcases its he with ⟨c7, he⟩ | ⟨c7, he⟩
  ·
   refine QD rfl (dt c7) <| QL rfl <| wM v_b rfl rfl <| wM (.int .i64 t16) rfl rfl <| rK he fun c8 he => w_d rfl (XA (sz := 1) Tryz.underlying22 sz167 rfl h_b.th rfl c8) <| w_d rfl (XR ty167 rfl h_b.th c8) <| wA (.int .u32 (rd b t16)) rfl rfl <| Qb <| w_sl 1 (v_b) rfl <| w_sl 4 (.slice none 0 0) rfl <| w_sl 5 (v_out) rfl ?_
   refine w_sl 6 (.int .u32 borrow) rfl <| w_sl 8 (.int .u32 (rd t14 t16)) rfl <| w_sl 9 (.int .u32 (rd b t16)) rfl <| w_sl 14 (v_t14) rfl <| w_sl 15 (.int .i64 t15) rfl <| w_sl 16 (.int .i64 t16) rfl <| QI.j2_ok (k := k) hh hle he h_b h_out h_t14
  ·
   refine QE rfl (df c7) <| QF <| w_sl 1 (v_b) rfl <| w_sl 4 (.slice none 0 0) rfl <| w_sl 5 (v_out) rfl <| w_sl 6 (.int .u32 borrow) rfl <| w_sl 8 (.int .u32 (rd t14 t16)) rfl <| w_sl 9 (.int .u32 0) rfl <| w_sl 14 (v_t14) rfl <| w_sl 15 (.int .i64 t15) rfl <| w_sl 16 (.int .i64 t16) rfl <| QI.j2_ok (k := k) hh hle he h_b h_out h_t14
 ·
  refine QE rfl (df c5) <| X3 rfl <| wR rfl <| wM v_out rfl rfl <| Yx h_out .here ?_
  intro H9 e10 h11
  refine bK he fun y12 hy13 he => w_a rfl (Qm co113 (vs := [v_out]) rfl (QU.calls k hy13 h11)) ?_
  rintro v16 H14 _ ⟨rfl, e15, h17⟩
  refine wA v16 rfl rfl <| Qb ?_
  obtain rfl := sj he
  refine Ql fn_143 rs_143 (.tmp (v := v16) rfl .nil) <| ⟨⟨[_], rfl⟩, hle.trans (e10.trans e15), h17⟩
theorem QI.ok : ∀ k, QI.OK (QI.hs k)
 | 0 => ⟨(by intros; exact nomatch (show none = some _ from by assumption))⟩
 | k + 1 => ⟨QI.b0_ok (k := k) (QI.ok k)⟩
theorem QI.calls (k : Nat) {H : Hp} {L : Items} {a b : List Int} {v0_a v1_b : Value} {r : (List Int)} (he : QI.f k a b = some r) (h0_a : Src kU32 H L v0_a a) (h1_b : Src kU32 H L v1_b b) : Ct Tryz.prog 143 ⟨[v0_a, v1_b]⟩ H L (cR H L (QI.out r)) := by
 refine XN (O := QI.out r) ?_
 have hle : H.le H := .refl _
 have hh := QI.ok k
 unfold QI.f at he
 refine QV (args := [_, _]) fn_143 rfl nt_143 rfl <| wR rfl <| wA (.slice none 0 0) rfl rfl <| wQ rfl <| wM v0_a rfl rfl <| w_d rfl (Xo Tryz.underlying22 rfl h0_a) <| rK he fun c1 he => w_a rfl (o_make' (kd := kU32) (z0 := 0) Tryz.underlying22 ti167 (zp167 _) rfl rfl (by omega) (by omega) (by omega)) ?_
 rintro v2 _ _ ⟨i3, rfl, rfl, h4⟩
 refine wA v2 rfl rfl <| wQ rfl <| wA (.int .u32 0) rfl rfl <| wE <| wR rfl <| wM v0_a rfl rfl <| w_d rfl (Xo Tryz.underlying22 rfl h0_a.th) <| wM (.int .i64 0) rfl rfl ?_
 refine Qb <| Q2 <| X5 <| w_sl 1 (v1_b) rfl <| w_sl 4 (.slice none 0 0) rfl <| w_sl 5 (v2) rfl <| w_sl 6 (.int .u32 0) rfl <| w_sl 14 (v0_a) rfl <| w_sl 15 (.int .i64 (a.length : Int)) rfl <| w_sl 16 (.int .i64 0) rfl <| hh.l0 hle he h1_b h4 h0_a
noncomputable def Xh.C : Code := (Tryz.f127.body).getD .skip
def Xh.out (r : Qv × (Option Int)) (H : Hp) (v : Value) : Prop := ∃ v0, v = .tuple ⟨[(Qd r.1 v0), errV 104 r.2]⟩ ∧ Ro kU32 H v0 r.1.f_w
theorem Xh.out_mono (r : Qv × (Option Int)) {H H' : Hp} {v : Value} (hle : H.le H') (h : Xh.out r H v) : Xh.out r H' v := by
 obtain ⟨v0, rfl, h0⟩ := h; exact ⟨v0, rfl, h0.mono hle⟩
abbrev Xh.R (H0 : Hp) (L : Items) (r : Qv × (Option Int)) := fR H0 L (Xh.out r)
noncomputable def Xh.j1 (k : Nat) (a_0 : Bool) (a_1 : List Int) (b_0 : Bool) (b_1 : List Int) : Option (Qv × (Option Int)) := (QI.f k a_1 b_1).bind fun y26 => (XI.f k a_0 y26).bind fun y32 => some (y32.1, y32.2)
noncomputable def Xh.f (k : Nat) (a b : Qv) : Option (Qv × (Option Int)) := if (a.f_neg == b.f_neg) = true then ((Qy.f k a.f_w b.f_w).bind fun y5 => (XI.f k a.f_neg y5).bind fun y11 => some (y11.1, y11.2)) else ((Q4.f k a.f_w b.f_w).bind fun y21 => if y21 < 0 then (Xh.j1 k b.f_neg b.f_w a.f_neg a.f_w) else (Xh.j1 k a.f_neg a.f_w b.f_neg b.f_w))
theorem Xh.j1_mono {k : Nat} : ∀ y0 y1 y2 y3, LeO (Xh.j1 k y0 y1 y2 y3) (Xh.j1 (k + 1) y0 y1 y2 y3) := fun _ _ _ _ => (LeO.bind (QI.mono k _ _) fun _ => LeO.bind (XI.mono k _ _) fun _ => LeO.refl _)
theorem Xh.mono : ∀ k y0 y1, LeO (Xh.f k y0 y1) (Xh.f (k + 1) y0 y1) := fun k _ _ => by unfold Xh.f; exact (LeO.ite (LeO.bind (Qy.mono k _ _) fun _ => LeO.bind (XI.mono k _ _) fun _ => LeO.refl _) (LeO.bind (Q4.mono k _ _) fun _ => LeO.ite (Xh.j1_mono (k := k)  _ _ _ _) (Xh.j1_mono (k := k)  _ _ _ _)))
noncomputable def Xh.Kj1 : List Item := .code (seqR (seqR (seqR Xh.C))) :: []
theorem Xh.j1_ok {k : Nat} {H0 H : Hp} {L : Items} {r : Qv × (Option Int)} {jk_ : Nat → Value} {a_0 : Bool} {a_1 : List Int} {b_0 : Bool} {b_1 : List Int} {v_a_1 v_b_1 : Value} {b_a b_b b_t4 : Nat} (hle : H0.le H) (he : Xh.j1 k a_0 a_1 b_0 b_1 = some r) (h_a_1 : Ro kU32 H v_a_1 a_1) (h_b_1 : Ro kU32 H v_b_1 b_1) : Wp Tryz.prog 127 39 Xh.Kj1 (upd (upd (upd (upd jk_ 2 (pt b_a)) 3 (pt b_b)) 4 (pt b_t4)) 5 (errV 104 none)) H (bx b_t4 [.bool false, .slice none 0 0] 24 :: bx b_b [.bool b_0, v_b_1] 24 :: bx b_a [.bool a_0, v_a_1] 24 :: L) (Xh.R H0 L r) := by
 unfold Xh.j1 at he
 unfold Xh.Kj1
 refine QX <| bK he fun y26 hy27 he => bK he fun y32 hy33 he => XC (p := 10) (tl := [10, 11]) [[], [(0, some 29)], [], [(2, some 31)], [], [(4, some 33)], [(3, some 32), (5, some 34)], [(1, some 30), (6, some 35)], [(7, some 36)], [(7, some 36)]] [some 29, some 30, some 31, some 32, some 33, some 34, some 35, some 36, some 37, some 38] (fctF (.is (pt b_a) :: .is (.bool a_0) :: .is (po b_a 1) :: .is (v_a_1) :: .is (po b_b 1) :: .is (v_b_1) :: .ro kU32 (y26) :: .of (XI.out y32) (XI.out_mono _) :: .of (fun H v => ∃ v38, v = (Qd y32.1 v38) ∧ Ro kU32 H v38 y32.1.f_w) (by rintro _ _ _ hle ⟨v38, rfl, h39⟩; exact ⟨v38, rfl, h39.mono hle⟩) :: .is (errV 104 y32.2) :: [])) (fun m_ => bx b_t4 [.bool false, .slice none 0 0] 24 :: bx b_b [.bool b_0, v_b_1] 24 :: bx b_a [.bool a_0, v_a_1] 24 :: L) (fun _ => none) mixed (by kernel_rfl) (by kernel_rfl) rfl (Xq (by kernel_rfl)) ⟨(fun H' m_ hH hm_ hu_ => dn <| s_d (m_ 0) rfl (Xi (o' := 0) Tryz.underlying24 rfl sz4 rfl rfl rfl) (by exact rfl) rfl), (by rintro H' m_ hH hm_ hu_ _ rfl; exact dn <| s_d (m_ 1) rfl (QN (v := .bool a_0) ty4 rfl .h2 rfl rfl rfl rfl) (by exact rfl) rfl), (fun H' m_ hH hm_ hu_ => dn <| s_d (m_ 2) rfl (Xi (o' := 1) Tryz.underlying24 rfl sz22 rfl rfl rfl) (by exact rfl) rfl), (by rintro H' m_ hH hm_ hu_ _ rfl; exact dn <| s_d (m_ 3) rfl (QN (v := v_a_1) ty22 rfl .h2 rfl rfl rfl rfl) (by exact rfl) rfl), (fun H' m_ hH hm_ hu_ => dn <| s_d (m_ 4) rfl (Xi (o' := 1) Tryz.underlying24 rfl sz22 rfl rfl rfl) (by exact rfl) rfl), (by rintro H' m_ hH hm_ hu_ _ rfl; exact dn <| s_d (m_ 5) rfl (QN (v := v_b_1) ty22 rfl .h1 rfl rfl rfl rfl) (by exact rfl) rfl), (by rintro H' m_ hH hm_ hu_ _ rfl _ rfl; exact dn <| s_k (m_ 6) rfl (Qm co143 (vs := [v_a_1, v_b_1]) rfl (QI.calls k hy27 ((h_a_1.mono hH).src) ((h_b_1.mono hH).src))) rfl (by rintro v_ H_ _ ⟨rfl, e_, h_⟩; exact ⟨rfl, e_, h_⟩)), (by rintro H' m_ hH hm_ hu_ _ rfl v30 (h31 : Ro kU32 H' v30 y26); exact dn <| s_k (m_ 7) rfl (Qm co115 (vs := [.bool a_0, v30]) rfl (XI.calls k hy33 h31)) rfl (by rintro v_ H_ _ ⟨rfl, e_, h_⟩; exact ⟨rfl, e_, h_⟩)), (by rintro H' m_ hH hm_ hu_ _ ⟨v36, rfl, h37⟩; exact dn <| s_d (m_ 8) rfl (Q5 rfl rfl) (by exact ⟨v36, rfl, h37⟩) rfl), (by rintro H' m_ hH hm_ hu_ _ ⟨v36, rfl, h37⟩; exact dn <| s_d (m_ 9) rfl (Q5 rfl rfl) (by exact rfl) rfl), trivial⟩ ?_
 intro H40 e41
 rintro _ _ rfl _ _ rfl _ _ rfl _ _ rfl _ _ rfl _ _ rfl v30 _ (h31 : Ro kU32 H40 v30 y26) _ _ ⟨v36, rfl, h37⟩ _ _ ⟨v38, rfl, h39⟩ _ _ rfl
 refine wS (Qd y32.1 v38) sz24 rfl rfl rfl rfl rfl (XF h39) .here u2 <| wA (errV 104 y32.2) rfl rfl <| Qb ?_
 obtain rfl := sj he
 refine Ql fn_127 rs_127 (.box (v := (Qd y32.1 v38)) rfl ty24 rfl rfl .here rfl (.tmp (v := errV 104 y32.2) rfl .nil)) <| ⟨⟨[_, _, _], rfl⟩, hle.trans e41, ⟨v38, rfl, h39⟩⟩
theorem Xh.calls (k : Nat) {H : Hp} {L : Items} {a b : Qv} {v0_a v1_b : Value} {r : Qv × (Option Int)} (he : Xh.f k a b = some r) (h0_a : Ro kU32 H v0_a a.f_w) (h1_b : Ro kU32 H v1_b b.f_w) : Ct Tryz.prog 127 ⟨[(Qd a v0_a), (Qd b v1_b)]⟩ H L (cR H L (Xh.out r)) := by
 refine XN (O := Xh.out r) ?_
 have hle : H.le H := .refl _
 unfold Xh.f at he
 refine QV (args := [_, _]) fn_127 rfl nt_127 rfl <| wR rfl <| wB (Qd a v0_a) rfl rfl rfl <| fun b1 => wB (Qd b v1_b) rfl rfl rfl <| fun b2 => wN zr24 rfl rfl fun b3 => wA (errV 104 none) rfl rfl <| wE <| wR rfl <| w_d rfl (Xi (o' := 0) Tryz.underlying24 rfl sz4 rfl rfl rfl) ?_
 refine wL (.bool a.f_neg) ty4 rfl rfl .h2 rfl rfl <| w_d rfl (Xi (o' := 0) Tryz.underlying24 rfl sz4 rfl rfl rfl) <| wL (.bool b.f_neg) ty4 rfl rfl .h1 rfl rfl <| w_d rfl (Wi (a := a.f_neg) (b := b.f_neg) Tryz.underlying4 rfl rfl) <| Qb ?_
 rcases its he with ⟨c4, he⟩ | ⟨c4, he⟩
 ·
  refine QD rfl c4 <| QX <| bK he fun y5 hy6 he => bK he fun y11 hy12 he => XC (p := 10) (tl := [10, 11]) [[], [(0, some 11)], [], [(2, some 13)], [], [(4, some 15)], [(3, some 14), (5, some 16)], [(1, some 12), (6, some 17)], [(7, some 18)], [(7, some 18)]] [some 11, some 12, some 13, some 14, some 15, some 16, some 17, some 18, some 19, some 20] (fctF (.is (pt b1) :: .is (.bool a.f_neg) :: .is (po b1 1) :: .is (v0_a) :: .is (po b2 1) :: .is (v1_b) :: .ro kU32 (y5) :: .of (XI.out y11) (XI.out_mono _) :: .of (fun H v => ∃ v17, v = (Qd y11.1 v17) ∧ Ro kU32 H v17 y11.1.f_w) (by rintro _ _ _ hle ⟨v17, rfl, h18⟩; exact ⟨v17, rfl, h18.mono hle⟩) :: .is (errV 104 y11.2) :: [])) (fun m_ => bx b3 [.bool false, .slice none 0 0] 24 :: bx b2 (QO b v1_b) 24 :: bx b1 (QO a v0_a) 24 :: L) (fun _ => none) mixed (by kernel_rfl) (by kernel_rfl) rfl (Xq (by kernel_rfl)) ⟨(fun H' m_ hH hm_ hu_ => dn <| s_d (m_ 0) rfl (Xi (o' := 0) Tryz.underlying24 rfl sz4 rfl rfl rfl) (by exact rfl) rfl), (by rintro H' m_ hH hm_ hu_ _ rfl; exact dn <| s_d (m_ 1) rfl (QN (v := .bool a.f_neg) ty4 rfl .h2 rfl rfl rfl rfl) (by exact rfl) rfl), (fun H' m_ hH hm_ hu_ => dn <| s_d (m_ 2) rfl (Xi (o' := 1) Tryz.underlying24 rfl sz22 rfl rfl rfl) (by exact rfl) rfl), (by rintro H' m_ hH hm_ hu_ _ rfl; exact dn <| s_d (m_ 3) rfl (QN (v := v0_a) ty22 rfl .h2 rfl rfl rfl rfl) (by exact rfl) rfl), (fun H' m_ hH hm_ hu_ => dn <| s_d (m_ 4) rfl (Xi (o' := 1) Tryz.underlying24 rfl sz22 rfl rfl rfl) (by exact rfl) rfl), (by rintro H' m_ hH hm_ hu_ _ rfl; exact dn <| s_d (m_ 5) rfl (QN (v := v1_b) ty22 rfl .h1 rfl rfl rfl rfl) (by exact rfl) rfl), (by rintro H' m_ hH hm_ hu_ _ rfl _ rfl; exact dn <| s_k (m_ 6) rfl (Qm co144 (vs := [v0_a, v1_b]) rfl (Qy.calls k hy6 ((h0_a.mono hH).src) ((h1_b.mono hH).src))) rfl (by rintro v_ H_ _ ⟨rfl, e_, h_⟩; exact ⟨rfl, e_, h_⟩)), (by rintro H' m_ hH hm_ hu_ _ rfl v9 (h10 : Ro kU32 H' v9 y5); exact dn <| s_k (m_ 7) rfl (Qm co115 (vs := (QO a v9)) rfl (XI.calls k hy12 h10)) rfl (by rintro v_ H_ _ ⟨rfl, e_, h_⟩; exact ⟨rfl, e_, h_⟩)), (by rintro H' m_ hH hm_ hu_ _ ⟨v15, rfl, h16⟩; exact dn <| s_d (m_ 8) rfl (Q5 rfl rfl) (by exact ⟨v15, rfl, h16⟩) rfl), (by rintro H' m_ hH hm_ hu_ _ ⟨v15, rfl, h16⟩; exact dn <| s_d (m_ 9) rfl (Q5 rfl rfl) (by exact rfl) rfl), trivial⟩ ?_
  intro H19 e20
  rintro _ _ rfl _ _ rfl _ _ rfl _ _ rfl _ _ rfl _ _ rfl v9 _ (h10 : Ro kU32 H19 v9 y5) _ _ ⟨v15, rfl, h16⟩ _ _ ⟨v17, rfl, h18⟩ _ _ rfl
  refine wS (Qd y11.1 v17) sz24 rfl rfl rfl rfl rfl (XF h18) .here u2 <| wA (errV 104 y11.2) rfl rfl <| Qb ?_
  obtain rfl := sj he
  refine Ql fn_127 rs_127 (.box (v := (Qd y11.1 v17)) rfl ty24 rfl rfl .here rfl (.tmp (v := errV 104 y11.2) rfl .nil)) <| ⟨⟨[_, _, _], rfl⟩, hle.trans e20, ⟨v17, rfl, h18⟩⟩
 ·
  refine QE rfl (Bool.eq_false_iff.2 c4) <| QF <| QX <| wR rfl <| w_d rfl (Xi (o' := 1) Tryz.underlying24 rfl sz22 rfl rfl rfl) <| wL v0_a ty22 rfl rfl .h2 rfl rfl <| w_d rfl (Xi (o' := 1) Tryz.underlying24 rfl sz22 rfl rfl rfl) <| wL v1_b ty22 rfl rfl .h1 rfl rfl <| bK he fun y21 hy22 he => w_d rfl (Xx (Qm co137 (vs := [v0_a, v1_b]) rfl (Q4.calls k hy22 h0_a.src h1_b.src))) <| w_d rfl (XW rfl rfl) ?_
  refine Qb ?_
  rcases its he with ⟨c25, he⟩ | ⟨c25, he⟩
  ·
   refine QD rfl (dt c25) <| QL rfl <| wL (Qd b v1_b) ty24 rfl rfl .h1 rfl rfl <| wL (Qd a v0_a) ty24 rfl rfl .h2 rfl rfl <| wS (Qd b v1_b) sz24 rfl rfl rfl rfl rfl (XF h1_b) .h2 u2 <| wS (Qd a v0_a) sz24 rfl rfl rfl rfl rfl (XF h0_a) .h1 u2 <| Qb <| w_sl 2 (pt b1) rfl <| w_sl 3 (pt b2) rfl <| w_sl 4 (pt b3) rfl <| w_sl 5 (errV 104 none) rfl <| Xh.j1_ok (k := k) hle he h1_b h0_a
  ·
   refine QE rfl (df c25) <| QF <| w_sl 2 (pt b1) rfl <| w_sl 3 (pt b2) rfl <| w_sl 4 (pt b3) rfl <| w_sl 5 (errV 104 none) rfl <| Xh.j1_ok (k := k) hle he h0_a h1_b
noncomputable def Ym.C : Code := (Tryz.f120.body).getD .skip
def Ym.out (r : Qv × (Option Int)) (H : Hp) (v : Value) : Prop := ∃ v0, v = .tuple ⟨[(Qd r.1 v0), errV 104 r.2]⟩ ∧ Ro kU32 H v0 r.1.f_w
theorem Ym.out_mono (r : Qv × (Option Int)) {H H' : Hp} {v : Value} (hle : H.le H') (h : Ym.out r H v) : Ym.out r H' v := by
 obtain ⟨v0, rfl, h0⟩ := h; exact ⟨v0, rfl, h0.mono hle⟩
noncomputable def Ym.f (k : Nat) (a b : Qv) : Option (Qv × (Option Int)) := (Xy.f k b).bind fun y4 => (Xh.f k a y4).bind fun y10 => some (y10.1, y10.2)
theorem Ym.mono : ∀ k y0 y1, LeO (Ym.f k y0 y1) (Ym.f (k + 1) y0 y1) := fun k _ _ => by unfold Ym.f; exact (LeO.bind (Xy.mono k _) fun _ => LeO.bind (Xh.mono k _ _) fun _ => LeO.refl _)
theorem Ym.calls (k : Nat) {H : Hp} {L : Items} {a b : Qv} {v0_a v1_b : Value} {r : Qv × (Option Int)} (he : Ym.f k a b = some r) (h0_a : Ro kU32 H v0_a a.f_w) (h1_b : Ro kU32 H v1_b b.f_w) : Ct Tryz.prog 120 ⟨[(Qd a v0_a), (Qd b v1_b)]⟩ H L (cR H L (Ym.out r)) := by
 refine XN (O := Ym.out r) ?_
 have hle : H.le H := .refl _
 unfold Ym.f at he
 refine QV (args := [_, _]) fn_120 rfl nt_120 rfl <| wR rfl <| wB (Qd a v0_a) rfl rfl rfl <| fun b1 => wB (Qd b v1_b) rfl rfl rfl <| fun b2 => wN zr24 rfl rfl fun b3 => wA (errV 104 none) rfl rfl <| wE <| bK he fun y4 hy5 he => bK he fun y10 hy11 he => XC (p := 6) (tl := [6, 7]) [[], [], [(1, some 7)], [(0, some 6), (2, some 8)], [(3, some 9)], [(3, some 9)]] [some 6, some 7, some 8, some 9, some 10, some 11] (fctF (.is (Qd a v0_a) :: .is (Qd b v1_b) :: .of (Xy.out y4) (Xy.out_mono _) :: .of (Xh.out y10) (Xh.out_mono _) :: .of (fun H v => ∃ v16, v = (Qd y10.1 v16) ∧ Ro kU32 H v16 y10.1.f_w) (by rintro _ _ _ hle ⟨v16, rfl, h17⟩; exact ⟨v16, rfl, h17.mono hle⟩) :: .is (errV 104 y10.2) :: [])) (fun m_ => bx b3 [.bool false, .slice none 0 0] 24 :: bx b2 (QO b v1_b) 24 :: bx b1 (QO a v0_a) 24 :: L) (fun _ => none) mixed (by kernel_rfl) (by kernel_rfl) rfl (Xq (by kernel_rfl)) ⟨(fun H' m_ hH hm_ hu_ => dn <| s_d (m_ 0) rfl (QN (v := (Qd a v0_a)) ty24 rfl .h2 rfl rfl rfl rfl) (by exact rfl) rfl), (fun H' m_ hH hm_ hu_ => dn <| s_d (m_ 1) rfl (QN (v := (Qd b v1_b)) ty24 rfl .h1 rfl rfl rfl rfl) (by exact rfl) rfl), (by rintro H' m_ hH hm_ hu_ _ rfl; exact dn <| s_k (m_ 2) rfl (Qm co121 (vs := [(Qd b v1_b)]) rfl (Xy.calls k (a := b) hy5 (h1_b.mono hH))) rfl (by rintro v_ H_ _ ⟨rfl, e_, h_⟩; exact ⟨rfl, e_, h_⟩)), (by rintro H' m_ hH hm_ hu_ _ rfl _ ⟨v8, rfl, h9⟩; exact dn <| s_k (m_ 3) rfl (Qm co127 (vs := [(Qd a v0_a), (Qd y4 v8)]) rfl (Xh.calls k (a := a) (b := y4) hy11 (h0_a.mono hH) h9)) rfl (by rintro v_ H_ _ ⟨rfl, e_, h_⟩; exact ⟨rfl, e_, h_⟩)), (by rintro H' m_ hH hm_ hu_ _ ⟨v14, rfl, h15⟩; exact dn <| s_d (m_ 4) rfl (Q5 rfl rfl) (by exact ⟨v14, rfl, h15⟩) rfl), (by rintro H' m_ hH hm_ hu_ _ ⟨v14, rfl, h15⟩; exact dn <| s_d (m_ 5) rfl (Q5 rfl rfl) (by exact rfl) rfl), trivial⟩ ?_
 intro H18 e19
 rintro _ _ rfl _ _ rfl _ _ ⟨v8, rfl, h9⟩ _ _ ⟨v14, rfl, h15⟩ _ _ ⟨v16, rfl, h17⟩ _ _ rfl
 refine wS (Qd y10.1 v16) sz24 rfl rfl rfl rfl rfl (XF h17) .here u2 <| wA (errV 104 y10.2) rfl rfl <| Qb ?_
 obtain rfl := sj he
 refine Ql fn_120 rs_120 (.box (v := (Qd y10.1 v16)) rfl ty24 rfl rfl .here rfl (.tmp (v := errV 104 y10.2) rfl .nil)) <| ⟨⟨[_, _, _], rfl⟩, hle.trans e19, ⟨v16, rfl, h17⟩⟩
noncomputable def Xt.C : Code := (Tryz.f72.body).getD .skip
def Xt.out (r : Qv × (Option Int)) (H : Hp) (v : Value) : Prop := ∃ v0, v = .tuple ⟨[(Qd r.1 v0), errV 104 r.2]⟩ ∧ Ro kU32 H v0 r.1.f_w
abbrev Xt.R (H0 : Hp) (L : Items) (r : Qv × (Option Int)) := fR H0 L (Xt.out r)
noncomputable def Xt.j1 (k : Nat) (a_0 : Bool) (a_1 : List Int) (lost : Bool) (rest : List Int) : Option (Qv × (Option Int)) := (Xb.f k rest).bind fun y68 => (XI.f k a_0 y68).bind fun y74 => if ((y74.2.isSome || (!a_0)) || (!lost)) = true then (some (y74.1, y74.2)) else ((XK.f k 1).bind fun y97 => (Ym.f k y74.1 y97).bind fun y103 => some (y103.1, y103.2))
noncomputable def Xt.f (k : Nat) (a : Qv) (n : Int) : Option (Qv × (Option Int)) := if ((decide (n < (-4096))) || (decide (4096 < n))) = true then (some (⟨false, []⟩, some 1)) else (if 0 ≤ n then (if 0 ≤ w64 (Int.tdiv n 32) ∧ w64 (Int.tdiv n 32) ≤ 70368744177664 then ((Xn.f k a.f_w (Int.tmod n 32)).bind fun y11 => if (List.replicate (w64 (Int.tdiv n 32) : Int).toNat (0 : Int)).length + y11.length ≤ 35184372088704 then ((XI.f k a.f_neg ((List.replicate (w64 (Int.tdiv n 32) : Int).toNat (0 : Int)) ++ y11)).bind fun y26 => some (y26.1, y26.2)) else none) else none) else (if (0 : Int) ≤ 0 ∧ (0 : Int) ≤ min (w64 (Int.tdiv (w64 (0 - n)) 32)) (a.f_w.length : Int) ∧ min (w64 (Int.tdiv (w64 (0 - n)) 32)) (a.f_w.length : Int) ≤ (a.f_w.length : Int) then ((Q8.f k (cut a.f_w 0 (min (w64 (Int.tdiv (w64 (0 - n)) 32)) (a.f_w.length : Int)))).bind fun y35 => if (0 : Int) ≤ min (w64 (Int.tdiv (w64 (0 - n)) 32)) (a.f_w.length : Int) ∧ (min (w64 (Int.tdiv (w64 (0 - n)) 32)) (a.f_w.length : Int) : Int) ≤ (a.f_w.length : Int) ∧ (a.f_w.length : Int) ≤ (a.f_w.length : Int) then (if ((decide ((min (w64 (Int.tdiv (w64 (0 - n)) 32)) (a.f_w.length : Int)) < (a.f_w.length : Int))) && (decide ((min (w64 (Int.tdiv (w64 (0 - n)) 32)) (a.f_w.length : Int)) = (w64 (Int.tdiv (w64 (0 - n)) 32))))) = true then (if (!y35) = true → (0 : Int) ≤ 0 ∧ 0 < ((cut a.f_w (min (w64 (Int.tdiv (w64 (0 - n)) 32)) (a.f_w.length : Int)) (a.f_w.length : Int)).length : Int) then (if (!y35) = true → 0 ≤ (Int.tmod (w64 (0 - n)) 32) then ((QK.f k (cut a.f_w (min (w64 (Int.tdiv (w64 (0 - n)) 32)) (a.f_w.length : Int)) (a.f_w.length : Int)) (Int.tmod (w64 (0 - n)) 32)).bind fun y62 => Xt.j1 k a.f_neg a.f_w (y35 || (!decide ((iand .u32 (rd (cut a.f_w (min (w64 (Int.tdiv (w64 (0 - n)) 32)) (a.f_w.length : Int)) (a.f_w.length : Int)) 0) ((((1 * 2 ^ shn .u32 (Int.tmod (w64 (0 - n)) 32)) % 4294967296) - 1) % 4294967296)) = 0))) y62) else none) else none) else (Xt.j1 k a.f_neg a.f_w y35 [])) else none) else none))
theorem Xt.j1_mono {k : Nat} : ∀ y0 y1 y2 y3, LeO (Xt.j1 k y0 y1 y2 y3) (Xt.j1 (k + 1) y0 y1 y2 y3) := fun _ _ _ _ => (LeO.bind (Xb.mono k _) fun _ => LeO.bind (XI.mono k _ _) fun _ => LeO.ite (LeO.refl _) (LeO.bind (XK.mono k _) fun _ => LeO.bind (Ym.mono k _ _) fun _ => LeO.refl _))
theorem Xt.mono : ∀ k y0 y1, LeO (Xt.f k y0 y1) (Xt.f (k + 1) y0 y1) := fun k _ _ => by unfold Xt.f; exact (LeO.ite (LeO.refl _) (LeO.ite (LeO.ite (LeO.bind (Xn.mono k _ _) fun _ => LeO.ite (LeO.bind (XI.mono k _ _) fun _ => LeO.refl _) (LeO.refl _)) (LeO.refl _)) (LeO.ite (LeO.bind (Q8.mono k _) fun _ => LeO.ite (LeO.ite (LeO.ite (LeO.ite (LeO.bind (QK.mono k _ _) fun _ => Xt.j1_mono (k := k)  _ _ _ _) (LeO.refl _)) (LeO.refl _)) (Xt.j1_mono (k := k)  _ _ _ _)) (LeO.refl _)) (LeO.refl _))))
noncomputable def Xt.Kj1 : List Item := .code (seqR (seqR (seqR (seqR (seqR (seqR (seqR Xt.C))))))) :: []
theorem Xt.j1_ok {k : Nat} {H0 H : Hp} {L : Items} {r : Qv × (Option Int)} {jk_ : Nat → Value} {a_0 : Bool} {a_1 : List Int} {lost : Bool} {rest : List Int} {v_a_1 v_rest : Value} {b_a b_t4 : Nat} (hle : H0.le H) (he : Xt.j1 k a_0 a_1 lost rest = some r) (h_a_1 : Ro kU32 H v_a_1 a_1) (h_rest : Ro kU32 H v_rest rest) : Wp Tryz.prog 72 109 Xt.Kj1 (upd (upd (upd (upd (upd jk_ 2 (pt b_a)) 4 (pt b_t4)) 5 (errV 104 none)) 8 (.bool lost)) 9 (v_rest)) H (bx b_t4 [.bool false, .slice none 0 0] 24 :: bx b_a [.bool a_0, v_a_1] 24 :: L) (Xt.R H0 L r) := by
 unfold Xt.j1 at he
 unfold Xt.Kj1
 refine QX <| bK he fun y68 hy69 he => bK he fun y74 hy75 he => ?_
 refine YG (?_)
 refine XC (p := 10) (tl := [10]) [[], [(0, some 84)], [], [(2, some 86)], [(1, some 85), (3, some 87)], [(4, some 88)], [(5, some 83)], [(5, some 83)], [], [(6, some 89), (8, some 10)]] [some 84, some 85, some 86, some 87, some 88, some 83, some 89, some 90, some 10, none] (fctF (.is (pt b_a) :: .is (.bool a_0) :: .is (v_rest) :: .ro kU32 (y68) :: .of (XI.out y74) (XI.out_mono _) :: .of (fun H v => ∃ v80, v = .tuple ⟨[(Qd y74.1 v80), errV 104 y74.2]⟩ ∧ Ro kU32 H v80 y74.1.f_w) (by rintro _ _ _ hle ⟨v80, rfl, h81⟩; exact ⟨v80, rfl, h81.mono hle⟩) :: .of (fun H v => ∃ v82, v = (Qd y74.1 v82) ∧ Ro kU32 H v82 y74.1.f_w) (by rintro _ _ _ hle ⟨v82, rfl, h83⟩; exact ⟨v82, rfl, h83.mono hle⟩) :: .is (errV 104 y74.2) :: .box 24 [.bool false, .slice none 0 0] :: .st 8 (fun H bq_ itq_ => ∃ v85, itq_ = bx bq_ (QO y74.1 v85) 24 ∧ Ro kU32 H v85 y74.1.f_w) (by rintro _ _ _ _ hle ⟨v85, rfl, h86⟩; exact ⟨v85, rfl, h86.mono hle⟩) :: [])) (fun m_ => pk (m_ 9) (m_ 8) :: bx b_t4 [.bool false, .slice none 0 0] 24 :: bx b_a [.bool a_0, v_a_1] 24 :: L) (fun _ => none) mixed (by kernel_rfl) (by kernel_rfl) rfl (Xq (by kernel_rfl)) ⟨(fun H' m_ hH hm_ hu_ => dn <| s_d (m_ 0) rfl (Xi (o' := 0) Tryz.underlying24 rfl sz4 rfl rfl rfl) (by exact rfl) rfl), (by rintro H' m_ hH hm_ hu_ _ rfl; exact dn <| s_d (m_ 1) rfl (QN (v := .bool a_0) ty4 rfl .h2 rfl rfl rfl rfl) (by exact rfl) rfl), (fun H' m_ hH hm_ hu_ => dn <| s_d (m_ 2) rfl (QT (v := v_rest) rfl) (by exact rfl) rfl), (by rintro H' m_ hH hm_ hu_ _ rfl; exact dn <| s_k (m_ 3) rfl (Qm co119 (vs := [v_rest]) rfl (Xb.callsR k hy69 (h_rest.mono hH))) rfl (by rintro v_ H_ _ ⟨rfl, e_, h_⟩; exact ⟨rfl, e_, h_⟩)), (by rintro H' m_ hH hm_ hu_ _ rfl v72 (h73 : Ro kU32 H' v72 y68); exact dn <| s_k (m_ 4) rfl (Qm co115 (vs := [.bool a_0, v72]) rfl (XI.calls k hy75 h73)) rfl (by rintro v_ H_ _ ⟨rfl, e_, h_⟩; exact ⟨rfl, e_, h_⟩)), (by rintro H' m_ hH hm_ hu_ _ ⟨v78, rfl, h79⟩; exact dn <| s_d (m_ 5) rfl (QT (v := .tuple ⟨[(Qd y74.1 v78), errV 104 y74.2]⟩) rfl) (by exact ⟨v78, rfl, h79⟩) rfl), (by rintro H' m_ hH hm_ hu_ _ ⟨v80, rfl, h81⟩; exact dn <| s_d (m_ 6) rfl (Q5 rfl rfl) (by exact ⟨v80, rfl, h81⟩) rfl), (by rintro H' m_ hH hm_ hu_ _ ⟨v80, rfl, h81⟩; exact dn <| s_d (m_ 7) rfl (Q5 rfl rfl) (by exact rfl) rfl), (fun H' m_ hH hm_ hu_ => dn <| Y8 hm_ rfl rfl (YT zr24 rfl) rfl (fun _ => (ZZ (hu_ 9 (by kernel_rfl)))) (by exact fun b_ => ⟨b_, rfl, rfl⟩)), (by rintro H' m_ hH hm_ hu_ _ ⟨v82, rfl, h83⟩ _ ⟨b84, rfl, hb84_⟩; exact dn <| Zv (Λ' := fun z_ => z_ :: bx b_t4 [.bool false, .slice none 0 0] 24 :: bx b_a [.bool a_0, v_a_1] 24 :: L) (bx b84 (QO y74.1 v82) 24) hm_ rfl hb84_ rfl (YO (v := (Qd y74.1 v82)) sz24 rfl rfl rfl rfl (oc rfl (oc (h83.one) oz)) .here u2) rfl rfl (by exact ⟨rfl, v82, congrArg (fun b_ => (some (b_, Obj.cells ⟨(QO y74.1 v82)⟩ 24 (0, 0)) : Item')) (Z2 hb84_).symm, h83⟩)), trivial⟩ ?_
 intro H89 e90
 rintro _ _ rfl _ _ rfl _ _ rfl v72 _ (h73 : Ro kU32 H89 v72 y68) _ _ ⟨v78, rfl, h79⟩ _ _ ⟨v80, rfl, h81⟩ _ _ ⟨v82, rfl, h83⟩ _ _ rfl _ _ ⟨b84, rfl, rfl⟩ _ i87 ⟨rfl, v85, h88, h86⟩
 replace h88 : i87 = bx b84 (QO y74.1 v85) 24 := h88
 subst h88
 refine w_it (L' := bx b84 (QO y74.1 v85) 24 :: bx b_t4 [.bool false, .slice none 0 0] 24 :: bx b_a [.bool a_0, v_a_1] 24 :: L) rfl <| wA (errV 104 y74.2) rfl rfl <| wE <| wR rfl <| wM (errV 104 y74.2) rfl rfl <| w_d rfl (Yj (e := y74.2) Tryz.underlying30 rfl) <| wM (.bool y74.2.isSome) rfl rfl <| w_g (g := !y74.2.isSome) rfl rfl rfl wn_f (fun g91 => Xi (o' := 0) Tryz.underlying24 rfl sz4 rfl rfl rfl) <| w_g (g := !y74.2.isSome) rfl rfl rfl wn_f (fun g92 => QN (v := .bool a_0) ty4 (cvt g92) .h2 rfl rfl rfl rfl) <| w_g (g := !y74.2.isSome) rfl rfl rfl wn_f (fun g93 => Zs (b := a_0) (cvt g93)) ?_
 refine w_d rfl (d_or' (b := y74.2.isSome) (p := (!a_0)) rfl rfl rfl) <| wM (.bool (y74.2.isSome || (!a_0))) rfl rfl <| w_g (g := !(y74.2.isSome || (!a_0))) rfl rfl rfl wn_f (fun g94 => QT (v := .bool lost) rfl) <| w_g (g := !(y74.2.isSome || (!a_0))) rfl rfl rfl wn_f (fun g95 => Zs (b := lost) (cvt g95)) <| w_d rfl (d_or' (b := (y74.2.isSome || (!a_0))) (p := (!lost)) rfl rfl rfl) <| Qb ?_
 rcases its he with ⟨c96, he⟩ | ⟨c96, he⟩
 ·
  refine QD rfl c96 <| wR rfl <| wL (Qd y74.1 v85) ty24 rfl rfl .here rfl rfl <| wM (errV 104 y74.2) rfl rfl <| wS (Qd y74.1 v85) sz24 rfl rfl rfl rfl rfl (XF h86) .h1 u2 <| wA (errV 104 y74.2) rfl rfl <| Qb ?_
  obtain rfl := sj he
  refine Ql fn_72 rs_72 (.box (v := (Qd y74.1 v85)) rfl ty24 rfl rfl .h1 rfl (.tmp (v := errV 104 y74.2) rfl .nil)) <| ⟨⟨[_, _, _], rfl⟩, hle.trans e90, ⟨v85, rfl, h86⟩⟩
 ·
  refine QE rfl (Bool.eq_false_iff.2 c96) <| QF <| QX <| bK he fun y97 hy98 he => bK he fun y103 hy104 he => XC (p := 5) (tl := [5, 6]) [[], [], [(0, some 104), (1, some 105)], [(2, some 106)], [(2, some 106)]] [some 104, some 105, some 106, some 107, some 108] (fctF (.is (Qd y74.1 v85) :: .of (XK.out y97) (XK.out_mono _) :: .of (Ym.out y103) (Ym.out_mono _) :: .of (fun H v => ∃ v109, v = (Qd y103.1 v109) ∧ Ro kU32 H v109 y103.1.f_w) (by rintro _ _ _ hle ⟨v109, rfl, h110⟩; exact ⟨v109, rfl, h110.mono hle⟩) :: .is (errV 104 y103.2) :: [])) (fun m_ => bx b84 (QO y74.1 v85) 24 :: bx b_t4 [.bool false, .slice none 0 0] 24 :: bx b_a [.bool a_0, v_a_1] 24 :: L) (fun _ => none) mixed (by kernel_rfl) (by kernel_rfl) rfl (Xq (by kernel_rfl)) ⟨(fun H' m_ hH hm_ hu_ => dn <| s_d (m_ 0) rfl (QN (v := (Qd y74.1 v85)) ty24 rfl .here rfl rfl rfl rfl) (by exact rfl) rfl), (fun H' m_ hH hm_ hu_ => dn <| s_k (m_ 1) rfl (Qm co71 (vs := [.int .i64 1]) rfl (XK.calls k hy98)) rfl (by rintro v_ H_ _ ⟨rfl, e_, h_⟩; exact ⟨rfl, e_, h_⟩)), (by rintro H' m_ hH hm_ hu_ _ rfl _ ⟨v101, rfl, h102⟩; exact dn <| s_k (m_ 2) rfl (Qm co120 (vs := [(Qd y74.1 v85), (Qd y97 v101)]) rfl (Ym.calls k (a := y74.1) (b := y97) hy104 (h86.mono hH) h102)) rfl (by rintro v_ H_ _ ⟨rfl, e_, h_⟩; exact ⟨rfl, e_, h_⟩)), (by rintro H' m_ hH hm_ hu_ _ ⟨v107, rfl, h108⟩; exact dn <| s_d (m_ 3) rfl (Q5 rfl rfl) (by exact ⟨v107, rfl, h108⟩) rfl), (by rintro H' m_ hH hm_ hu_ _ ⟨v107, rfl, h108⟩; exact dn <| s_d (m_ 4) rfl (Q5 rfl rfl) (by exact rfl) rfl), trivial⟩ ?_
  intro H111 e112
  rintro _ _ rfl _ _ ⟨v101, rfl, h102⟩ _ _ ⟨v107, rfl, h108⟩ _ _ ⟨v109, rfl, h110⟩ _ _ rfl
  refine wS (Qd y103.1 v109) sz24 rfl rfl rfl rfl rfl (XF h110) .h1 u2 <| wA (errV 104 y103.2) rfl rfl <| Qb ?_
  obtain rfl := sj he
  refine Ql fn_72 rs_72 (.box (v := (Qd y103.1 v109)) rfl ty24 rfl rfl .h1 rfl (.tmp (v := errV 104 y103.2) rfl .nil)) <| ⟨⟨[_, _, _], rfl⟩, hle.trans (e90.trans e112), ⟨v109, rfl, h110⟩⟩
theorem Xt.calls (k : Nat) {H : Hp} {L : Items} {a : Qv} {n : Int} {v0_a : Value} {r : Qv × (Option Int)} (he : Xt.f k a n = some r) (h0_a : Ro kU32 H v0_a a.f_w) : Ct Tryz.prog 72 ⟨[(Qd a v0_a), .int .i64 n]⟩ H L (cR H L (Xt.out r)) := by
 refine XN (O := Xt.out r) ?_
 have hle : H.le H := .refl _
 unfold Xt.f at he
 refine QV (args := [_, _]) fn_72 rfl nt_72 rfl <| wR rfl <| wB (Qd a v0_a) rfl rfl rfl <| fun b1 => wN zr24 rfl rfl fun b2 => wA (errV 104 none) rfl rfl <| wE <| wR rfl <| wM (.int .i64 n) rfl rfl <| w_d rfl (XW rfl rfl) ?_
 refine wM (.bool (decide (n < (-4096)))) rfl rfl <| w_g (g := !(decide (n < (-4096)))) rfl rfl rfl wn_f (fun g3 => QT (v := .int .i64 n) rfl) <| w_g (g := !(decide (n < (-4096)))) rfl rfl rfl wn_f (fun g4 => YV (cvt g4) rfl) <| w_d rfl (d_or' (b := (decide (n < (-4096)))) (p := (decide (4096 < n))) rfl rfl rfl) <| Qb ?_
 rcases its he with ⟨c5, he⟩ | ⟨c5, he⟩
 ·
  refine QD rfl c5 <| wR rfl <| w_d rfl (XE (cs' := [.bool false, .slice none 0 0]) Tryz.underlying24 zr24 rfl (by kernel_rfl) (parts := []) rfl .nil) <| w_d rfl (Zf (v := .int .i64 1) Tryz.underlying104 rfl rfl) <| wS (.agg ⟨[.bool false, .slice none 0 0]⟩) sz24 rfl rfl rfl rfl rfl (oc rfl (oc rfl oz)) .here u2 <| wA (errV 104 (some 1)) rfl rfl <| Qb ?_
  obtain rfl := sj he
  refine Ql fn_72 rs_72 (.box (v := .agg ⟨[.bool false, .slice none 0 0]⟩) rfl ty24 rfl rfl .here rfl (.tmp (v := errV 104 (some 1)) rfl .nil)) <| ⟨⟨[_, _], rfl⟩, hle, ⟨.slice none 0 0, rfl, (Xj _ _)⟩⟩
 ·
  refine QE rfl (Bool.eq_false_iff.2 c5) <| QF <| QX <| wR rfl <| wM (.int .i64 n) rfl rfl <| w_d rfl (ZO rfl rfl) <| Qb ?_
  rcases its he with ⟨c6, he⟩ | ⟨c6, he⟩
  ·
   refine QD rfl (dt c6) <| QX <| rK he fun c7 he => bK he fun y11 hy12 he => ?_
   refine YG (?_)
   refine XC (p := 8) (tl := [8, 9]) [[], [(0, some 22)], [(1, some 23)], [], [(3, some 25)], [], [(5, some 27)], [(4, some 26), (6, some 28)]] [some 22, some 23, some 24, some 25, some 26, some 27, some 28, some 29] (fctF (.is (.int .i64 n) :: .is (.int .i64 (w64 (Int.tdiv n 32))) :: .sl kU32 167 (List.replicate (w64 (Int.tdiv n 32) : Int).toNat (0 : Int)) :: .is (po b1 1) :: .is (v0_a) :: .is (.int .i64 n) :: .is (.int .i64 (Int.tmod n 32)) :: .ro kU32 (y11) :: [])) (fun m_ => m_ 2 :: bx b2 [.bool false, .slice none 0 0] 24 :: bx b1 (QO a v0_a) 24 :: L) (fun _ => none) mixed (by kernel_rfl) (by kernel_rfl) rfl (Xq (by kernel_rfl)) ⟨(fun H' m_ hH hm_ hu_ => dn <| s_d (m_ 0) rfl (QT (v := .int .i64 n) rfl) (by exact rfl) rfl), (by rintro H' m_ hH hm_ hu_ _ rfl; exact dn <| s_d (m_ 1) rfl (Jn (c := w64 (Int.tdiv n 32)) rfl rfl (by decide) rfl) (by exact rfl) rfl), (by rintro H' m_ hH hm_ hu_ _ rfl; exact dn <| s_sl hm_ rfl rfl (o_make' (kd := kU32) (z0 := 0) Tryz.underlying22 ti167 (zp167 _) rfl rfl (by omega) (by omega) (by omega)) rfl (fun _ => .here) (by exact fun _ _ h_ => h_)), (fun H' m_ hH hm_ hu_ => dn <| s_d (m_ 3) rfl (Xi (o' := 1) Tryz.underlying24 rfl sz22 rfl rfl rfl) (by exact rfl) rfl), (by rintro H' m_ hH hm_ hu_ _ rfl; exact dn <| s_d (m_ 4) rfl (QN (v := v0_a) ty22 rfl .h2 rfl rfl rfl rfl) (by exact rfl) rfl), (fun H' m_ hH hm_ hu_ => dn <| s_d (m_ 5) rfl (QT (v := .int .i64 n) rfl) (by exact rfl) rfl), (by rintro H' m_ hH hm_ hu_ _ rfl; exact dn <| s_d (m_ 6) rfl (Jj rfl rfl (by decide)) (by exact rfl) rfl), (by rintro H' m_ hH hm_ hu_ _ rfl _ rfl; exact dn <| s_k (m_ 7) rfl (Qm co114 (vs := [v0_a, .int .i64 (Int.tmod n 32)]) rfl (Xn.callsR k hy12 ((h0_a.mono hH).src))) rfl (by rintro v_ H_ _ ⟨rfl, e_, h_⟩; exact ⟨rfl, e_, h_⟩)), trivial⟩ ?_
   intro H17 e18
   rintro _ _ rfl _ _ rfl v8 i9 (h10 : Sl kU32 H17 167 i9 v8 (List.replicate (w64 (Int.tdiv n 32) : Int).toNat (0 : Int))) _ _ rfl _ _ rfl _ _ rfl _ _ rfl v15 _ (h16 : Ro kU32 H17 v15 y11)
   refine rK he fun c19 he => w_a rfl (o_append' (kd := kU32) (F := fun z_ => z_ :: bx b2 [.bool false, .slice none 0 0] 24 :: bx b1 (QO a v0_a) 24 :: L) Tryz.underlying22 Tryz.underlying22 ti167 rfl (by first | omega | (simp only [List.nil_append, List.length_cons, List.length_nil]; omega)) rfl rfl h10 h16.src (fun _ => .here)) ?_
   rintro v20 _ _ ⟨i21, rfl, rfl, h22⟩
   refine wA v20 rfl rfl <| wQ rfl <| w_d rfl (Xi (o' := 0) Tryz.underlying24 rfl sz4 rfl rfl rfl) <| wL (.bool a.f_neg) ty4 rfl rfl .h2 rfl rfl <| wM v20 rfl rfl <| Yx h22 .here ?_
   intro H23 e24 h25
   refine bK he fun y26 hy27 he => w_a rfl (Qm co115 (vs := (QO a v20)) rfl (XI.calls k hy27 h25)) ?_
   rintro _ H28 _ ⟨rfl, e29, v30, rfl, h31⟩
   refine w_d rfl (Q5 rfl rfl) <| w_d rfl (Q5 rfl rfl) <| wS (Qd y26.1 v30) sz24 rfl rfl rfl rfl rfl (XF h31) .h1 u2 <| wA (errV 104 y26.2) rfl rfl <| Qb ?_
   obtain rfl := sj he
   refine Ql fn_72 rs_72 (.box (v := (Qd y26.1 v30)) rfl ty24 rfl rfl .h1 rfl (.tmp (v := errV 104 y26.2) rfl .nil)) <| ⟨⟨[_, _, _], rfl⟩, hle.trans ((e18.trans e24).trans e29), ⟨v30, rfl, h31⟩⟩
  ·
   refine QE rfl (df c6) <| QF <| wR rfl <| wM (.int .i64 n) rfl rfl <| w_d rfl (Mj (c := w64 (0 - n)) rfl rfl) <| w_d rfl (Jn (c := w64 (Int.tdiv (w64 (0 - n)) 32)) rfl rfl (by decide) rfl) <| w_d rfl (Xi (o' := 1) Tryz.underlying24 rfl sz22 rfl rfl rfl) <| wL v0_a ty22 rfl rfl .h1 rfl rfl <| w_d rfl (Xo Tryz.underlying22 rfl h0_a.src) <| w_d rfl (QaD rfl rfl) <| wA (.int .i64 (min (w64 (Int.tdiv (w64 (0 - n)) 32)) (a.f_w.length : Int))) rfl rfl ?_
   refine wQ rfl <| w_d rfl (Xi (o' := 1) Tryz.underlying24 rfl sz22 rfl rfl rfl) <| wL v0_a ty22 rfl rfl .h1 rfl rfl <| wM (.int .i64 (min (w64 (Int.tdiv (w64 (0 - n)) 32)) (a.f_w.length : Int))) rfl rfl <| rK he fun c32 he => w_a rfl (Nc (kd := kU32) Tryz.underlying22 sz167 rfl h0_a (.inl ⟨rfl, rfl⟩) (.inr ⟨_, _, rfl, rfl⟩) c32) ?_
   rintro v33 _ _ ⟨h34, rfl, rfl⟩
   refine bK he fun y35 hy36 he => w_d rfl (Xx (Qm co116 (vs := [v33, .func (.func 117) #[] #[]]) rfl (Q8.calls k hy36 h34.src))) <| wA (.bool y35) rfl rfl <| wQ rfl <| w_d rfl (Xi (o' := 1) Tryz.underlying24 rfl sz22 rfl rfl rfl) <| wL v0_a ty22 rfl rfl .h1 rfl rfl <| wM (.int .i64 (min (w64 (Int.tdiv (w64 (0 - n)) 32)) (a.f_w.length : Int))) rfl rfl <| rK he fun c39 he => w_a rfl (Nc (kd := kU32) Tryz.underlying22 sz167 rfl h0_a (.inr ⟨_, _, rfl, rfl⟩) (.inl ⟨rfl, rfl⟩) c39) ?_
   rintro v40 _ _ ⟨h41, rfl, rfl⟩
   refine wA v40 rfl rfl <| wE <| wR rfl <| wM (.int .i64 (min (w64 (Int.tdiv (w64 (0 - n)) 32)) (a.f_w.length : Int))) rfl rfl <| w_d rfl (Xi (o' := 1) Tryz.underlying24 rfl sz22 rfl rfl rfl) <| wL v0_a ty22 rfl rfl .h1 rfl rfl <| w_d rfl (Xo Tryz.underlying22 rfl h0_a.src) <| w_d rfl (XW rfl rfl) <| wM (.bool (decide ((min (w64 (Int.tdiv (w64 (0 - n)) 32)) (a.f_w.length : Int)) < (a.f_w.length : Int)))) rfl rfl <| w_g (g := decide ((min (w64 (Int.tdiv (w64 (0 - n)) 32)) (a.f_w.length : Int)) < (a.f_w.length : Int))) rfl rfl rfl wn_t (fun g42 => QT (v := .int .i64 (min (w64 (Int.tdiv (w64 (0 - n)) 32)) (a.f_w.length : Int))) rfl) ?_
   refine w_g (g := decide ((min (w64 (Int.tdiv (w64 (0 - n)) 32)) (a.f_w.length : Int)) < (a.f_w.length : Int))) rfl rfl rfl wn_t (fun g43 => QT (v := .int .i64 n) rfl) <| w_g (g := decide ((min (w64 (Int.tdiv (w64 (0 - n)) 32)) (a.f_w.length : Int)) < (a.f_w.length : Int))) rfl rfl rfl wn_t (fun g44 => Mj (c := w64 (0 - n)) (cvt g44) rfl) <| w_g (g := decide ((min (w64 (Int.tdiv (w64 (0 - n)) 32)) (a.f_w.length : Int)) < (a.f_w.length : Int))) rfl rfl rfl wn_t (fun g45 => Jn (c := w64 (Int.tdiv (w64 (0 - n)) 32)) (cvt g45) rfl (by decide) rfl) <| w_g (g := decide ((min (w64 (Int.tdiv (w64 (0 - n)) 32)) (a.f_w.length : Int)) < (a.f_w.length : Int))) rfl rfl rfl wn_t (fun g46 => YY (cvt g46) (cvt g46)) <| w_d rfl (d_and' (b := (decide ((min (w64 (Int.tdiv (w64 (0 - n)) 32)) (a.f_w.length : Int)) < (a.f_w.length : Int)))) (p := (decide ((min (w64 (Int.tdiv (w64 (0 - n)) 32)) (a.f_w.length : Int)) = (w64 (Int.tdiv (w64 (0 - n)) 32))))) rfl rfl rfl) <| Qb ?_
   rcases its he with ⟨c47, he⟩ | ⟨c47, he⟩
   ·
    refine QD rfl c47 <| QX <| rK he fun c50 he => rK he fun c56 he => XC (p := 10) (tl := [10, 11, 12, 13]) [[], [(0, some 65)], [(1, some 66)], [(1, some 66), (2, some 67)], [(1, some 66), (3, some 68)], [(1, some 66)], [(1, some 66), (5, some 70)], [(1, some 66), (6, some 71)], [(1, some 66), (7, some 72)], [(1, some 66), (8, some 73)]] [some 65, some 66, some 67, some 68, some 69, some 70, some 71, some 72, some 73, some 74] (fctF (.is (.bool y35) :: .is (.bool y35) :: .is (cond (!y35) v40 undef) :: .is (cond (!y35) (.pointer (some (pel v40 0 1))) undef) :: .is (cond (!y35) (.int .u32 (rd (cut a.f_w (min (w64 (Int.tdiv (w64 (0 - n)) 32)) (a.f_w.length : Int)) (a.f_w.length : Int)) 0)) undef) :: .is (cond (!y35) (.int .i64 n) undef) :: .is (cond (!y35) (.int .i64 (w64 (0 - n))) undef) :: .is (cond (!y35) (.int .i64 (Int.tmod (w64 (0 - n)) 32)) undef) :: .is (cond (!y35) (.int .u32 ((1 * 2 ^ shn .u32 (Int.tmod (w64 (0 - n)) 32)) % 4294967296)) undef) :: .is (cond (!y35) (.int .u32 ((((1 * 2 ^ shn .u32 (Int.tmod (w64 (0 - n)) 32)) % 4294967296) - 1) % 4294967296)) undef) :: [])) (fun m_ => bx b2 [.bool false, .slice none 0 0] 24 :: bx b1 (QO a v0_a) 24 :: L) (fun _ => none) mixed (by kernel_rfl) (by kernel_rfl) rfl (Xq (by kernel_rfl)) ⟨(fun H' m_ hH hm_ hu_ => dn <| s_d (m_ 0) rfl (QT (v := .bool y35) rfl) (by exact rfl) rfl), (by rintro H' m_ hH hm_ hu_ _ rfl; exact dn <| s_d (m_ 1) rfl (QT (v := .bool y35) rfl) (by exact rfl) rfl), (by rintro H' m_ hH hm_ hu_ _ rfl; exact dn <| s_g (g := !y35) (m_ 2) rfl rfl rfl wn_f (fun g48 => QT (v := v40) rfl) rfl (by exact fun g_ => cvt g_) (by exact fun g_ => cnt g_)), (by rintro H' m_ hH hm_ hu_ _ rfl _ rfl; exact dn <| s_g (g := !y35) (m_ 3) rfl rfl rfl wn_f (fun g49 => XA (sz := 1) Tryz.underlying22 sz167 (cvt g49) (h41.mono hH).src rfl (c50 g49)) rfl (by exact fun g_ => cvt g_) (by exact fun g_ => cnt g_)), (by rintro H' m_ hH hm_ hu_ _ rfl _ rfl; exact dn <| s_g (g := !y35) (m_ 4) rfl rfl rfl wn_f (fun g51 => XR ty167 (cvt g51) (h41.mono hH).src (c50 g51)) rfl (by exact fun g_ => cvt g_) (by exact fun g_ => cnt g_)), (by rintro H' m_ hH hm_ hu_ _ rfl; exact dn <| s_g (g := !y35) (m_ 5) rfl rfl rfl wn_f (fun g52 => QT (v := .int .i64 n) rfl) rfl (by exact fun g_ => cvt g_) (by exact fun g_ => cnt g_)), (by rintro H' m_ hH hm_ hu_ _ rfl _ rfl; exact dn <| s_g (g := !y35) (m_ 6) rfl rfl rfl wn_f (fun g53 => Mj (c := w64 (0 - n)) (cvt g53) rfl) rfl (by exact fun g_ => cvt g_) (by exact fun g_ => cnt g_)), (by rintro H' m_ hH hm_ hu_ _ rfl _ rfl; exact dn <| s_g (g := !y35) (m_ 7) rfl rfl rfl wn_f (fun g54 => Jj (cvt g54) rfl (by decide)) rfl (by exact fun g_ => cvt g_) (by exact fun g_ => cnt g_)), (by rintro H' m_ hH hm_ hu_ _ rfl _ rfl; exact dn <| s_g (g := !y35) (m_ 8) rfl rfl rfl wn_f (fun g55 => Gq (c := (1 * 2 ^ shn .u32 (Int.tmod (w64 (0 - n)) 32)) % 4294967296) rfl (cvt g55) (c56 g55) rfl) rfl (by exact fun g_ => cvt g_) (by exact fun g_ => cnt g_)), (by rintro H' m_ hH hm_ hu_ _ rfl _ rfl; exact dn <| s_g (g := !y35) (m_ 9) rfl rfl rfl wn_f (fun g57 => YE (c := (((1 * 2 ^ shn .u32 (Int.tmod (w64 (0 - n)) 32)) % 4294967296) - 1) % 4294967296) (cvt g57) rfl rfl) rfl (by exact fun g_ => cvt g_) (by exact fun g_ => cnt g_)), trivial⟩ ?_
    intro H58 e59
    rintro _ _ rfl _ _ rfl _ _ rfl _ _ rfl _ _ rfl _ _ rfl _ _ rfl _ _ rfl _ _ rfl _ _ rfl
    refine w_g (g := !y35) rfl rfl rfl wn_f (fun g60 => Nz (cvt g60) (cvt g60)) <| w_g (g := !y35) rfl rfl rfl wn_f (fun g61 => Zl (cvt g61) rfl) <| w_d rfl (d_or' (b := y35) (p := (!decide ((iand .u32 (rd (cut a.f_w (min (w64 (Int.tdiv (w64 (0 - n)) 32)) (a.f_w.length : Int)) (a.f_w.length : Int)) 0) ((((1 * 2 ^ shn .u32 (Int.tmod (w64 (0 - n)) 32)) % 4294967296) - 1) % 4294967296)) = 0))) rfl rfl rfl) <| wA (.bool (y35 || (!decide ((iand .u32 (rd (cut a.f_w (min (w64 (Int.tdiv (w64 (0 - n)) 32)) (a.f_w.length : Int)) (a.f_w.length : Int)) 0) ((((1 * 2 ^ shn .u32 (Int.tmod (w64 (0 - n)) 32)) % 4294967296) - 1) % 4294967296)) = 0)))) rfl rfl <| Qb <| QL rfl <| wM v40 rfl rfl <| wM (.int .i64 n) rfl rfl <| w_d rfl (Mj (c := w64 (0 - n)) rfl rfl) <| w_d rfl (Jj rfl rfl (by decide)) <| bK he fun y62 hy63 he => w_a rfl (Qm co118 (vs := [v40, .int .i64 (Int.tmod (w64 (0 - n)) 32)]) rfl (QK.calls k hy63 (h41.mono e59))) ?_
    rintro v66 H64 _ ⟨rfl, e65, h67⟩
    refine wA v66 rfl rfl <| Qb <| w_sl 2 (pt b1) rfl <| w_sl 4 (pt b2) rfl <| w_sl 5 (errV 104 none) rfl <| w_sl 8 (.bool (y35 || (!decide ((iand .u32 (rd (cut a.f_w (min (w64 (Int.tdiv (w64 (0 - n)) 32)) (a.f_w.length : Int)) (a.f_w.length : Int)) 0) ((((1 * 2 ^ shn .u32 (Int.tmod (w64 (0 - n)) 32)) % 4294967296) - 1) % 4294967296)) = 0)))) rfl <| w_sl 9 (v66) rfl <| Xt.j1_ok (k := k) (hle.trans (e59.trans e65)) he (h0_a.mono (e59.trans e65)) h67
   ·
    refine QE rfl (Bool.eq_false_iff.2 c47) <| QL rfl <| wA (.slice none 0 0) rfl rfl <| Qb <| w_sl 2 (pt b1) rfl <| w_sl 4 (pt b2) rfl <| w_sl 5 (errV 104 none) rfl <| w_sl 8 (.bool y35) rfl <| w_sl 9 (.slice none 0 0) rfl <| Xt.j1_ok (k := k) hle he h0_a (Xj _ _)
noncomputable def Xr.C : Code := (Tryz.f84.body).getD .skip
def Xr.out (r : Int) (H : Hp) (v : Value) : Prop := v = .int .i64 r
noncomputable def Xr.f (k : Nat) (a : Qv) : Option Int := if (a.f_w.length : Int) = 0 then (some (0)) else (if a.f_neg = true then (some ((-1))) else (some (1)))
theorem Xr.mono : ∀ k y0, LeO (Xr.f k y0) (Xr.f (k + 1) y0) := fun k _ => by unfold Xr.f; exact (LeO.ite (LeO.refl _) (LeO.ite (LeO.refl _) (LeO.refl _)))
theorem Xr.calls (k : Nat) {H : Hp} {L : Items} {a : Qv} {v0_a : Value} {r : Int} (he : Xr.f k a = some r) (h0_a : Ro kU32 H v0_a a.f_w) : Ct Tryz.prog 84 ⟨[(Qd a v0_a)]⟩ H L (fun v H' L' => L = L' ∧ H = H' ∧ v = .int .i64 r) := by
 refine Yp (O := Xr.out r) (fun _ _ h => h) ?_
 have hle : H.le H := .refl _
 unfold Xr.f at he
 refine QV (args := [_]) fn_84 rfl nt_84 rfl <| wR rfl <| wB (Qd a v0_a) rfl rfl rfl <| fun b1 => wA (.int .i64 0) rfl rfl <| wE <| Q2 <| wR rfl <| w_d rfl (Xi (o' := 1) Tryz.underlying24 rfl sz22 rfl rfl rfl) <| wL v0_a ty22 rfl rfl .here rfl rfl ?_
 refine w_d rfl (Xo Tryz.underlying22 rfl h0_a.src) <| w_d rfl (YY rfl rfl) <| wA (.bool (decide ((a.f_w.length : Int) = 0))) rfl rfl <| Qb ?_
 rcases its he with ⟨c2, he⟩ | ⟨c2, he⟩
 ·
  refine QD rfl (dt c2) <| wR rfl <| wA (.int .i64 0) rfl rfl <| Qb ?_
  obtain rfl := sj he
  refine Ql fn_84 rs_84 (.tmp (v := .int .i64 0) rfl .nil) <| ⟨⟨[_], rfl⟩, hle, rfl⟩
 ·
  refine QE rfl (df c2) <| wR rfl <| w_d rfl (Xi (o' := 0) Tryz.underlying24 rfl sz4 rfl rfl rfl) <| wL (.bool a.f_neg) ty4 rfl rfl .here rfl rfl <| wA (.bool a.f_neg) rfl rfl <| Qb ?_
  rcases its he with ⟨c3, he⟩ | ⟨c3, he⟩
  ·
   refine QD rfl c3 <| wR rfl <| wA (.int .i64 (-1)) rfl rfl <| Qb ?_
   obtain rfl := sj he
   refine Ql fn_84 rs_84 (.tmp (v := .int .i64 (-1)) rfl .nil) <| ⟨⟨[_], rfl⟩, hle, rfl⟩
  ·
   refine QE rfl (Bool.eq_false_iff.2 c3) <| QF <| Xw <| wR rfl <| wA (.int .i64 1) rfl rfl <| Qb ?_
   obtain rfl := sj he
   refine Ql fn_84 rs_84 (.tmp (v := .int .i64 1) rfl .nil) <| ⟨⟨[_], rfl⟩, hle, rfl⟩
noncomputable def Yz.C : Code := (Tryz.f123.body).getD .skip
def Yz.out (r : Qv) (H : Hp) (v : Value) : Prop := ∃ v0, v = (Qd r v0) ∧ Ro kU32 H v0 r.f_w
theorem Yz.out_mono (r : Qv) {H H' : Hp} {v : Value} (hle : H.le H') (h : Yz.out r H v) : Yz.out r H' v := by
 obtain ⟨v0, rfl, h0⟩ := h; exact ⟨v0, rfl, h0.mono hle⟩
noncomputable def Yz.f (k : Nat) (a : Qv) : Option Qv := (Xr.f k a).bind fun y3 => if y3 < 0 then ((Xy.f k a).bind fun y8 => some (y8)) else (some (a))
theorem Yz.mono : ∀ k y0, LeO (Yz.f k y0) (Yz.f (k + 1) y0) := fun k _ => by unfold Yz.f; exact (LeO.bind (Xr.mono k _) fun _ => LeO.ite (LeO.bind (Xy.mono k _) fun _ => LeO.refl _) (LeO.refl _))
theorem Yz.calls (k : Nat) {H : Hp} {L : Items} {a : Qv} {v0_a : Value} {r : Qv} (he : Yz.f k a = some r) (h0_a : Ro kU32 H v0_a a.f_w) : Ct Tryz.prog 123 ⟨[(Qd a v0_a)]⟩ H L (cR H L (Yz.out r)) := by
 refine XN (O := Yz.out r) ?_
 have hle : H.le H := .refl _
 unfold Yz.f at he
 refine QV (args := [_]) fn_123 rfl nt_123 rfl <| wR rfl <| wB (Qd a v0_a) rfl rfl rfl <| fun b1 => wN zr24 rfl rfl fun b2 => wE <| wR rfl <| wL (Qd a v0_a) ty24 rfl rfl .h1 rfl rfl <| bK he fun y3 hy4 he => w_d rfl (Xx (Qm co84 (vs := [(Qd a v0_a)]) rfl (Xr.calls k (a := a) hy4 h0_a))) ?_
 refine w_d rfl (XW rfl rfl) <| Qb ?_
 rcases its he with ⟨c7, he⟩ | ⟨c7, he⟩
 ·
  refine QD rfl (dt c7) <| wR rfl <| wL (Qd a v0_a) ty24 rfl rfl .h1 rfl rfl <| bK he fun y8 hy9 he => w_a rfl (Qm co121 (vs := [(Qd a v0_a)]) rfl (Xy.calls k (a := a) hy9 h0_a)) ?_
  rintro _ H10 _ ⟨rfl, e11, v12, rfl, h13⟩
  refine wS (Qd y8 v12) sz24 rfl rfl rfl rfl rfl (XF h13) .here u2 <| Qb ?_
  obtain rfl := sj he
  refine Ql fn_123 rs_123 (.box (v := (Qd y8 v12)) rfl ty24 rfl rfl .here rfl .nil) <| ⟨⟨[_, _], rfl⟩, hle.trans e11, ⟨v12, rfl, h13⟩⟩
 ·
  refine QE rfl (df c7) <| QF <| wR rfl <| wL (Qd a v0_a) ty24 rfl rfl .h1 rfl rfl <| wS (Qd a v0_a) sz24 rfl rfl rfl rfl rfl (XF h0_a) .here u2 <| Qb ?_
  obtain rfl := sj he
  refine Ql fn_123 rs_123 (.box (v := (Qd a v0_a)) rfl ty24 rfl rfl .here rfl .nil) <| ⟨⟨[_, _], rfl⟩, hle, ⟨v0_a, rfl, h0_a⟩⟩
noncomputable def Q1.C : Code := (Tryz.f130.body).getD .skip
def Q1.out (r : (List Int) × Int) (H : Hp) (v : Value) : Prop := ∃ v0, v = .tuple ⟨[v0, .int .u32 r.2]⟩ ∧ Ro kU32 H v0 r.1
abbrev Q1.R (H0 : Hp) (L : Items) (r : (List Int) × Int) := fR H0 L (Q1.out r)
structure Q1.Hs where
 l0 : (List Int) → Int → (List Int) → Int → Int → Option ((List Int) × Int)
noncomputable def Q1.b0 (k : Nat) (h : Q1.Hs) (a : List Int) (b : Int) (out : List Int) (rest i : Int) : Option ((List Int) × Int) := if 0 ≤ i then (if (0 : Int) ≤ i ∧ i < (a.length : Int) then (if ((b) % 18446744073709551616) ≠ 0 then (if (0 : Int) ≤ i ∧ i < (out.length : Int) then (if ((b) % 18446744073709551616) ≠ 0 then (h.l0 a b (out.set (i : Int).toNat (((Int.tdiv (ior .u64 ((rest * 4294967296) % 18446744073709551616) ((rd a i) % 18446744073709551616)) ((b) % 18446744073709551616)) % 18446744073709551616) % 4294967296)) (Int.tmod (ior .u64 ((rest * 4294967296) % 18446744073709551616) ((rd a i) % 18446744073709551616)) ((b) % 18446744073709551616)) (w64 (i - 1))) else none) else none) else none) else none) else ((QU.f k out).bind fun y15 => some (y15, (rest) % 4294967296))
noncomputable def Q1.hs : Nat → Q1.Hs
 | 0 => ⟨fun _ _ _ _ _ => none⟩
 | k + 1 => ⟨fun x0 x1 x2 x3 x4 => Q1.b0 k (Q1.hs k) x0 x1 x2 x3 x4⟩
noncomputable def Q1.f (k : Nat) (a : List Int) (b : Int) : Option ((List Int) × Int) := (fun h : Q1.Hs => if 0 ≤ (a.length : Int) ∧ (a.length : Int) ≤ 70368744177664 then (h.l0 a b (List.replicate ((a.length : Int) : Int).toNat (0 : Int)) 0 (w64 ((a.length : Int) - 1))) else none) (Q1.hs k)
structure Q1.LE (h h' : Q1.Hs) : Prop where
 l0 : ∀ y0 y1 y2 y3 y4, LeO (h.l0 y0 y1 y2 y3 y4) (h'.l0 y0 y1 y2 y3 y4)
theorem Q1.b0_mono {k : Nat} {h h' : Q1.Hs} (hl : Q1.LE h h') : ∀ y0 y1 y2 y3 y4, LeO (Q1.b0 k h y0 y1 y2 y3 y4) (Q1.b0 (k + 1) h' y0 y1 y2 y3 y4) := fun _ _ _ _ _ => (LeO.ite (LeO.ite (LeO.ite (LeO.ite (LeO.ite (hl.l0 _ _ _ _ _) (LeO.refl _)) (LeO.refl _)) (LeO.refl _)) (LeO.refl _)) (LeO.bind (QU.mono k _) fun _ => LeO.refl _))
theorem Q1.hs_mono : ∀ k, Q1.LE (Q1.hs k) (Q1.hs (k + 1))
 | 0 => ⟨fun _ _ _ _ _ => LeO.none _⟩
 | k + 1 => ⟨Q1.b0_mono (k := k) (Q1.hs_mono k)⟩
theorem Q1.mono : ∀ k y0 y1, LeO (Q1.f k y0 y1) (Q1.f (k + 1) y0 y1) := fun k _ _ => have hl := Q1.hs_mono k; by unfold Q1.f; exact (LeO.ite (hl.l0 _ _ _ _ _) (LeO.refl _))
noncomputable def Q1.Kl0 : List Item := .code (lopB (blkB (seqR (seqL (seqR (seqR (seqR Q1.C))))))) :: .inLoop (lopB (blkB (seqR (seqL (seqR (seqR (seqR Q1.C))))))) :: .inBlock 0 :: .code (seqR (seqR (seqR (seqR Q1.C)))) :: []
structure Q1.OK (h : Q1.Hs) : Prop where
 l0 : ∀ {H0 H : Hp} {L : Items} {r : (List Int) × Int} {jk_ : Nat → Value} {a : List Int} {b : Int} {out : List Int} {rest : Int} {i : Int} {v_a : Value} {v_out : Value} {i_out : Item'} (_ : H0.le H) (_he : h.l0 a b out rest i = some r) (_h_a : Src kU32 H L v_a a) (_h_out : Sl kU32 H 167 i_out v_out out), Wp Tryz.prog 130 44 Q1.Kl0 (upd (upd (upd (upd (upd (upd (upd jk_ 0 (v_a)) 1 (.int .u32 b)) 4 (.slice none 0 0)) 5 (.int .u32 0)) 6 (v_out)) 7 (.int .u64 rest)) 8 (.int .i64 i)) H (i_out :: L) (Q1.R H0 L r)
theorem Q1.b0_ok {k : Nat} {h : Q1.Hs} (hh : Q1.OK h) {H0 H : Hp} {L : Items} {r : (List Int) × Int} {jk_ : Nat → Value} {a : List Int} {b : Int} {out : List Int} {rest i : Int} {v_a v_out : Value} {i_out : Item'} (hle : H0.le H) (he : Q1.b0 k h a b out rest i = some r) (h_a : Src kU32 H L v_a a) (h_out : Sl kU32 H 167 i_out v_out out) : Wp Tryz.prog 130 44 Q1.Kl0 (upd (upd (upd (upd (upd (upd (upd jk_ 0 (v_a)) 1 (.int .u32 b)) 4 (.slice none 0 0)) 5 (.int .u32 0)) 6 (v_out)) 7 (.int .u64 rest)) 8 (.int .i64 i)) H (i_out :: L) (Q1.R H0 L r) := by
 unfold Q1.b0 at he
 unfold Q1.Kl0
 refine QX <| wR rfl <| wM (.int .i64 i) rfl rfl <| w_d rfl (ZO rfl rfl) <| Qb ?_
 rcases its he with ⟨c5, he⟩ | ⟨c5, he⟩
 ·
  refine QD rfl (dt c5) <| QF <| QX <| Q2 <| wR rfl <| wM (.int .u64 rest) rfl rfl <| w_d rfl (Gq (c := (rest * 4294967296) % 18446744073709551616) rfl rfl (by decide) rfl) <| wM v_a rfl rfl <| wM (.int .i64 i) rfl rfl <| rK he fun c6 he => w_d rfl (XA (sz := 1) Tryz.underlying22 sz167 rfl h_a.th rfl c6) ?_
  refine w_d rfl (XR ty167 rfl h_a.th c6) <| w_d rfl (Yd (c := (rd a i) % 18446744073709551616) Tryz.underlying167 Tryz.underlying113 rfl rfl) <| w_d rfl (Gu rfl rfl) <| wA (.int .u64 (ior .u64 ((rest * 4294967296) % 18446744073709551616) ((rd a i) % 18446744073709551616))) rfl rfl <| wQ rfl <| wM v_out rfl rfl <| wM (.int .i64 i) rfl rfl <| wM (.int .u64 (ior .u64 ((rest * 4294967296) % 18446744073709551616) ((rd a i) % 18446744073709551616))) rfl rfl <| wM (.int .u32 b) rfl rfl <| w_d rfl (Yd (c := (b) % 18446744073709551616) Tryz.underlying167 Tryz.underlying113 rfl rfl) ?_
  refine rK he fun c7 he => w_d rfl (Jn (c := (Int.tdiv (ior .u64 ((rest * 4294967296) % 18446744073709551616) ((rd a i) % 18446744073709551616)) ((b) % 18446744073709551616)) % 18446744073709551616) rfl rfl c7 rfl) <| w_d rfl (Yd (c := ((Int.tdiv (ior .u64 ((rest * 4294967296) % 18446744073709551616) ((rd a i) % 18446744073709551616)) ((b) % 18446744073709551616)) % 18446744073709551616) % 4294967296) Tryz.underlying113 Tryz.underlying167 rfl rfl) <| rK he fun c8 he => w_d rfl (YM (sz := 1) Tryz.underlying22 sz167 rfl h_out.shp rfl c8) <| w_a0 rfl (Y1 (kd := kU32) (v := .int .u32 (((Int.tdiv (ior .u64 ((rest * 4294967296) % 18446744073709551616) ((rd a i) % 18446744073709551616)) ((b) % 18446744073709551616)) % 18446744073709551616) % 4294967296)) (F := fun z_ => z_ :: L) sz167 rfl rfl rfl rfl h_out c8 (fun _ => .here)) ?_
  rintro _ _ _ ⟨i9, rfl, rfl, rfl, h10⟩
  refine Qb <| QL rfl <| wM (.int .u64 (ior .u64 ((rest * 4294967296) % 18446744073709551616) ((rd a i) % 18446744073709551616))) rfl rfl <| wM (.int .u32 b) rfl rfl <| w_d rfl (Yd (c := (b) % 18446744073709551616) Tryz.underlying167 Tryz.underlying113 rfl rfl) <| rK he fun c11 he => w_d rfl (Jj rfl rfl c11) <| wA (.int .u64 (Int.tmod (ior .u64 ((rest * 4294967296) % 18446744073709551616) ((rd a i) % 18446744073709551616)) ((b) % 18446744073709551616))) rfl rfl <| Qb <| Xw <| QL rfl <| wM (.int .i64 i) rfl rfl ?_
  refine w_d rfl (YE (c := w64 (i - 1)) rfl rfl rfl) <| wA (.int .i64 (w64 (i - 1))) rfl rfl <| Qb <| XG <| w_sl 0 (v_a) rfl <| w_sl 1 (.int .u32 b) rfl <| w_sl 4 (.slice none 0 0) rfl <| w_sl 5 (.int .u32 0) rfl <| w_sl 6 (v_out) rfl <| w_sl 7 (.int .u64 (Int.tmod (ior .u64 ((rest * 4294967296) % 18446744073709551616) ((rd a i) % 18446744073709551616)) ((b) % 18446744073709551616))) rfl <| w_sl 8 (.int .i64 (w64 (i - 1))) rfl <| hh.l0 hle he h_a h10
 ·
  refine QE rfl (df c5) <| X3 rfl <| wR rfl <| wM v_out rfl rfl <| Yx h_out .here ?_
  intro H12 e13 h14
  refine bK he fun y15 hy16 he => w_a rfl (Qm co113 (vs := [v_out]) rfl (QU.calls k hy16 h14)) ?_
  rintro v19 H17 _ ⟨rfl, e18, h20⟩
  refine wM (.int .u64 rest) rfl rfl <| w_d rfl (Yd (c := (rest) % 4294967296) Tryz.underlying113 Tryz.underlying167 rfl rfl) <| wA v19 rfl rfl <| wA (.int .u32 ((rest) % 4294967296)) rfl rfl <| Qb ?_
  obtain rfl := sj he
  refine Ql fn_130 rs_130 (.tmp (v := v19) rfl (.tmp (v := .int .u32 ((rest) % 4294967296)) rfl .nil)) <| ⟨⟨[_], rfl⟩, hle.trans (e13.trans e18), ⟨v19, rfl, h20⟩⟩
theorem Q1.ok : ∀ k, Q1.OK (Q1.hs k)
 | 0 => ⟨(by intros; exact nomatch (show none = some _ from by assumption))⟩
 | k + 1 => ⟨Q1.b0_ok (k := k) (Q1.ok k)⟩
theorem Q1.calls (k : Nat) {H : Hp} {L : Items} {a : List Int} {b : Int} {v0_a : Value} {r : (List Int) × Int} (he : Q1.f k a b = some r) (h0_a : Src kU32 H L v0_a a) : Ct Tryz.prog 130 ⟨[v0_a, .int .u32 b]⟩ H L (cR H L (Q1.out r)) := by
 refine XN (O := Q1.out r) ?_
 have hle : H.le H := .refl _
 have hh := Q1.ok k
 unfold Q1.f at he
 refine QV (args := [_, _]) fn_130 rfl nt_130 rfl <| wR rfl <| wA (.slice none 0 0) rfl rfl <| wA (.int .u32 0) rfl rfl <| wQ rfl <| wM v0_a rfl rfl <| w_d rfl (Xo Tryz.underlying22 rfl h0_a) <| rK he fun c1 he => w_a rfl (o_make' (kd := kU32) (z0 := 0) Tryz.underlying22 ti167 (zp167 _) rfl rfl (by omega) (by omega) (by omega)) ?_
 rintro v2 _ _ ⟨i3, rfl, rfl, h4⟩
 refine wA v2 rfl rfl <| wQ rfl <| wA (.int .u64 0) rfl rfl <| wE <| wR rfl <| wM v0_a rfl rfl <| w_d rfl (Xo Tryz.underlying22 rfl h0_a.th) <| w_d rfl (YE (c := w64 ((a.length : Int) - 1)) rfl rfl rfl) ?_
 refine wA (.int .i64 (w64 ((a.length : Int) - 1))) rfl rfl <| Qb <| Q2 <| X5 <| w_sl 0 (v0_a) rfl <| w_sl 1 (.int .u32 b) rfl <| w_sl 4 (.slice none 0 0) rfl <| w_sl 5 (.int .u32 0) rfl <| w_sl 6 (v2) rfl <| w_sl 7 (.int .u64 0) rfl <| w_sl 8 (.int .i64 (w64 ((a.length : Int) - 1))) rfl <| hh.l0 hle he h0_a h4
noncomputable def Xg.C : Code := (Tryz.f167.body).getD .skip
def Xg.out (r : Int) (H : Hp) (v : Value) : Prop := v = .int .i64 r
abbrev Xg.R (H0 : Hp) (L : Items) (r : Int) := fR H0 L (Xg.out r)
noncomputable def Xg.j2 (k : Nat) (x n : Int) : Option Int := if (0 : Int) ≤ (x) % 256 ∧ (x) % 256 < (str_0.size : Int) then (some (w64 (n + (w64 (bt str_0 ((x) % 256)))))) else none
noncomputable def Xg.j1 (k : Nat) (x n : Int) : Option Int := if 256 ≤ x then (Xg.j2 k (x / 256) (w64 (n + 8))) else (Xg.j2 k x n)
noncomputable def Xg.f (k : Nat) (x : Int) : Option Int := if 65536 ≤ x then (Xg.j1 k (x / 65536) 16) else (Xg.j1 k x 0)
theorem Xg.j2_mono {k : Nat} : ∀ y0 y1, LeO (Xg.j2 k y0 y1) (Xg.j2 (k + 1) y0 y1) := fun _ _ => (LeO.ite (LeO.refl _) (LeO.refl _))
theorem Xg.j1_mono {k : Nat} : ∀ y0 y1, LeO (Xg.j1 k y0 y1) (Xg.j1 (k + 1) y0 y1) := fun _ _ => (LeO.ite (Xg.j2_mono (k := k)  _ _) (Xg.j2_mono (k := k)  _ _))
theorem Xg.mono : ∀ k y0, LeO (Xg.f k y0) (Xg.f (k + 1) y0) := fun k _ => by unfold Xg.f; exact (LeO.ite (Xg.j1_mono (k := k)  _ _) (Xg.j1_mono (k := k)  _ _))
noncomputable def Xg.Kj1 : List Item := .code (seqR (seqR Xg.C)) :: []
noncomputable def Xg.Kj2 : List Item := .code (seqR (seqR (seqR Xg.C))) :: []
theorem Xg.j2_ok {k : Nat} {H0 H : Hp} {L : Items} {r : Int} {jk_ : Nat → Value} {x n : Int} (hle : H0.le H) (he : Xg.j2 k x n = some r) : Wp Tryz.prog 167 19 Xg.Kj2 (upd (upd jk_ 0 (.int .u32 x)) 2 (.int .i64 n)) H (L) (Xg.R H0 L r) := by
 unfold Xg.j2 at he
 unfold Xg.Kj2
 refine wR rfl <| wM (.int .i64 n) rfl rfl <| wM (.int .u32 x) rfl rfl <| w_d rfl (Yd (c := (x) % 256) Tryz.underlying167 Tryz.underlying5 rfl rfl) <| rK he fun c3 he => w_d rfl (d_bt Tryz.underlying9 rfl rfl c3) <| w_d rfl (Yd (c := w64 (bt str_0 ((x) % 256))) Tryz.underlying5 Tryz.underlying3 rfl rfl) <| w_d rfl (XQ (c := w64 (n + (w64 (bt str_0 ((x) % 256))))) rfl rfl rfl) <| wA (.int .i64 (w64 (n + (w64 (bt str_0 ((x) % 256)))))) rfl rfl <| Qb ?_
 obtain rfl := sj he
 refine Ql fn_167 rs_167 (.tmp (v := .int .i64 (w64 (n + (w64 (bt str_0 ((x) % 256)))))) rfl .nil) <| ⟨⟨[], rfl⟩, hle, rfl⟩
theorem Xg.j1_ok {k : Nat} {H0 H : Hp} {L : Items} {r : Int} {jk_ : Nat → Value} {x n : Int} (hle : H0.le H) (he : Xg.j1 k x n = some r) : Wp Tryz.prog 167 19 Xg.Kj1 (upd (upd jk_ 0 (.int .u32 x)) 2 (.int .i64 n)) H (L) (Xg.R H0 L r) := by
 unfold Xg.j1 at he
 unfold Xg.Kj1
 refine QX <| wR rfl <| wM (.int .u32 x) rfl rfl <| w_d rfl (ZO rfl rfl) <| Qb ?_
 rcases its he with ⟨c2, he⟩ | ⟨c2, he⟩
 ·
  refine QD rfl (dt c2) <| wR rfl <| wM (.int .u32 x) rfl rfl <| w_d rfl (Jb (c := x / 256) rfl rfl (by decide) rfl) <| wA (.int .u32 (x / 256)) rfl rfl <| Qb <| QL rfl <| wM (.int .i64 n) rfl rfl <| w_d rfl (XQ (c := w64 (n + 8)) rfl rfl rfl) <| wA (.int .i64 (w64 (n + 8))) rfl rfl <| Qb ?_
  refine w_sl 0 (.int .u32 (x / 256)) rfl <| w_sl 2 (.int .i64 (w64 (n + 8))) rfl <| Xg.j2_ok (k := k) hle he
 ·
  refine QE rfl (df c2) <| QF <| w_sl 0 (.int .u32 x) rfl <| w_sl 2 (.int .i64 n) rfl <| Xg.j2_ok (k := k) hle he
theorem Xg.calls (k : Nat) {H : Hp} {L : Items} {x r : Int} (he : Xg.f k x = some r) : Ct Tryz.prog 167 ⟨[.int .u32 x]⟩ H L (fun v H' L' => L = L' ∧ H = H' ∧ v = .int .i64 r) := by
 refine Yp (O := Xg.out r) (fun _ _ h => h) ?_
 have hle : H.le H := .refl _
 unfold Xg.f at he
 refine QV (args := [_]) fn_167 rfl nt_167 rfl <| wR rfl <| wA (.int .i64 0) rfl rfl <| wE <| wR rfl <| wM (.int .u32 x) rfl rfl <| w_d rfl (ZO rfl rfl) <| Qb ?_
 rcases its he with ⟨c1, he⟩ | ⟨c1, he⟩
 ·
  refine QD rfl (dt c1) <| wR rfl <| wM (.int .u32 x) rfl rfl <| w_d rfl (Jb (c := x / 65536) rfl rfl (by decide) rfl) <| wA (.int .u32 (x / 65536)) rfl rfl <| Qb <| QL rfl <| wA (.int .i64 16) rfl rfl <| Qb <| w_sl 0 (.int .u32 (x / 65536)) rfl <| w_sl 2 (.int .i64 16) rfl <| Xg.j1_ok (k := k) hle he
 ·
  refine QE rfl (df c1) <| QF <| w_sl 0 (.int .u32 x) rfl <| w_sl 2 (.int .i64 0) rfl <| Xg.j1_ok (k := k) hle he
noncomputable def XX.C : Code := (Tryz.f155.body).getD .skip
def XX.out (r : Int) (H : Hp) (v : Value) : Prop := v = .int .i64 r
noncomputable def XX.f (k : Nat) (x : Int) : Option Int := (Xg.f k x).bind fun y1 => some (w64 (32 - y1))
theorem XX.mono : ∀ k y0, LeO (XX.f k y0) (XX.f (k + 1) y0) := fun k _ => by unfold XX.f; exact (LeO.bind (Xg.mono k _) fun _ => LeO.refl _)
theorem XX.calls (k : Nat) {H : Hp} {L : Items} {x r : Int} (he : XX.f k x = some r) : Ct Tryz.prog 155 ⟨[.int .u32 x]⟩ H L (fun v H' L' => L = L' ∧ H = H' ∧ v = .int .i64 r) := by
 refine Yp (O := XX.out r) (fun _ _ h => h) ?_
 have hle : H.le H := .refl _
 unfold XX.f at he
 refine QV (args := [_]) fn_155 rfl nt_155 rfl <| wR rfl <| wA (.int .i64 0) rfl rfl <| wQ rfl <| wM (.int .u32 x) rfl rfl <| bK he fun y1 hy2 he => w_d rfl (Xx (Qm co167 (vs := [.int .u32 x]) rfl (Xg.calls k hy2))) <| w_d rfl (YE (c := w64 (32 - y1)) rfl rfl rfl) <| wA (.int .i64 (w64 (32 - y1))) rfl rfl ?_
 refine Qb ?_
 obtain rfl := sj he
 refine Ql fn_155 rs_155 (.tmp (v := .int .i64 (w64 (32 - y1))) rfl .nil) <| ⟨⟨[], rfl⟩, hle, rfl⟩
noncomputable def Q6.C : Code := (Tryz.f156.body).getD .skip
def Q6.out (r : Int) (H : Hp) (v : Value) : Prop := v = .int .u64 r
abbrev Q6.R (H0 : Hp) (L : Items) (r : Int) := fR H0 L (Q6.out r)
structure Q6.Hs where
 l0 : (List Int) → (List Int) → Int → Int → Int → Int → Option Int
noncomputable def Q6.b0 (k : Nat) (h : Q6.Hs) (r_ d : List Int) (i n q left : Int) : Option Int := if (!(decide (4294967296 ≤ q))) = true → (0 : Int) ≤ w64 (n - 2) ∧ w64 (n - 2) < (d.length : Int) then (if (!(decide (4294967296 ≤ q))) = true → (0 : Int) ≤ w64 ((w64 (i + n)) - 2) ∧ w64 ((w64 (i + n)) - 2) < (r_.length : Int) then (if ((decide (4294967296 ≤ q)) || (decide ((ior .u64 ((left * 4294967296) % 18446744073709551616) ((rd r_ (w64 ((w64 (i + n)) - 2))) % 18446744073709551616)) < ((q * ((rd d (w64 (n - 2))) % 18446744073709551616)) % 18446744073709551616)))) = true then (if (0 : Int) ≤ w64 (n - 1) ∧ w64 (n - 1) < (d.length : Int) then (if 4294967296 ≤ ((left + ((rd d (w64 (n - 1))) % 18446744073709551616)) % 18446744073709551616) then (some ((q - 1) % 18446744073709551616)) else (h.l0 r_ d i n ((q - 1) % 18446744073709551616) ((left + ((rd d (w64 (n - 1))) % 18446744073709551616)) % 18446744073709551616))) else none) else (some (q))) else none) else none
noncomputable def Q6.hs : Nat → Q6.Hs
 | 0 => ⟨fun _ _ _ _ _ _ => none⟩
 | k + 1 => ⟨fun x0 x1 x2 x3 x4 x5 => Q6.b0 k (Q6.hs k) x0 x1 x2 x3 x4 x5⟩
noncomputable def Q6.f (k : Nat) (r_ d : List Int) (i : Int) : Option Int := (fun h : Q6.Hs => if (0 : Int) ≤ w64 (i + (d.length : Int)) ∧ w64 (i + (d.length : Int)) < (r_.length : Int) then (if (0 : Int) ≤ w64 ((w64 (i + (d.length : Int))) - 1) ∧ w64 ((w64 (i + (d.length : Int))) - 1) < (r_.length : Int) then (if (0 : Int) ≤ w64 ((d.length : Int) - 1) ∧ w64 ((d.length : Int) - 1) < (d.length : Int) then (if ((rd d (w64 ((d.length : Int) - 1))) % 18446744073709551616) ≠ 0 then (if (0 : Int) ≤ w64 ((d.length : Int) - 1) ∧ w64 ((d.length : Int) - 1) < (d.length : Int) then (if ((rd d (w64 ((d.length : Int) - 1))) % 18446744073709551616) ≠ 0 then (h.l0 r_ d i (d.length : Int) ((Int.tdiv (ior .u64 ((((rd r_ (w64 (i + (d.length : Int)))) % 18446744073709551616) * 4294967296) % 18446744073709551616) ((rd r_ (w64 ((w64 (i + (d.length : Int))) - 1))) % 18446744073709551616)) ((rd d (w64 ((d.length : Int) - 1))) % 18446744073709551616)) % 18446744073709551616) (Int.tmod (ior .u64 ((((rd r_ (w64 (i + (d.length : Int)))) % 18446744073709551616) * 4294967296) % 18446744073709551616) ((rd r_ (w64 ((w64 (i + (d.length : Int))) - 1))) % 18446744073709551616)) ((rd d (w64 ((d.length : Int) - 1))) % 18446744073709551616))) else none) else none) else none) else none) else none) else none) (Q6.hs k)
structure Q6.LE (h h' : Q6.Hs) : Prop where
 l0 : ∀ y0 y1 y2 y3 y4 y5, LeO (h.l0 y0 y1 y2 y3 y4 y5) (h'.l0 y0 y1 y2 y3 y4 y5)
theorem Q6.b0_mono {k : Nat} {h h' : Q6.Hs} (hl : Q6.LE h h') : ∀ y0 y1 y2 y3 y4 y5, LeO (Q6.b0 k h y0 y1 y2 y3 y4 y5) (Q6.b0 (k + 1) h' y0 y1 y2 y3 y4 y5) := fun _ _ _ _ _ _ => (LeO.ite (LeO.ite (LeO.ite (LeO.ite (LeO.ite (LeO.refl _) (hl.l0 _ _ _ _ _ _)) (LeO.refl _)) (LeO.refl _)) (LeO.refl _)) (LeO.refl _))
theorem Q6.hs_mono : ∀ k, Q6.LE (Q6.hs k) (Q6.hs (k + 1))
 | 0 => ⟨fun _ _ _ _ _ _ => LeO.none _⟩
 | k + 1 => ⟨Q6.b0_mono (k := k) (Q6.hs_mono k)⟩
theorem Q6.mono : ∀ k y0 y1 y2, LeO (Q6.f k y0 y1 y2) (Q6.f (k + 1) y0 y1 y2) := fun k _ _ _ => have hl := Q6.hs_mono k; by unfold Q6.f; exact (LeO.ite (LeO.ite (LeO.ite (LeO.ite (LeO.ite (LeO.ite (hl.l0 _ _ _ _ _ _) (LeO.refl _)) (LeO.refl _)) (LeO.refl _)) (LeO.refl _)) (LeO.refl _)) (LeO.refl _))
noncomputable def Q6.Kl0 : List Item := .code (lopB (blkB (seqL (seqR (seqR (seqR (seqR Q6.C))))))) :: .inLoop (lopB (blkB (seqL (seqR (seqR (seqR (seqR Q6.C))))))) :: .inBlock 0 :: .code (seqR (seqR (seqR (seqR (seqR Q6.C))))) :: []
structure Q6.OK (h : Q6.Hs) : Prop where
 l0 : ∀ {H0 H : Hp} {L : Items} {r : Int} {jk_ : Nat → Value} {r_ : List Int} {d : List Int} {i : Int} {n : Int} {q : Int} {left : Int} {v_r_ : Value} {v_d : Value} (_ : H0.le H) (_he : h.l0 r_ d i n q left = some r) (_h_r_ : Src kU32 H L v_r_ r_) (_h_d : Src kU32 H L v_d d), Wp Tryz.prog 156 83 Q6.Kl0 (upd (upd (upd (upd (upd (upd (upd jk_ 0 (v_r_)) 1 (v_d)) 2 (.int .i64 i)) 6 (.int .u64 0)) 7 (.int .i64 n)) 9 (.int .u64 q)) 10 (.int .u64 left)) H (L) (Q6.R H0 L r)
theorem Q6.b0_ok {k : Nat} {h : Q6.Hs} (hh : Q6.OK h) {H0 H : Hp} {L : Items} {r : Int} {jk_ : Nat → Value} {r_ d : List Int} {i n q left : Int} {v_r_ v_d : Value} (hle : H0.le H) (he : Q6.b0 k h r_ d i n q left = some r) (h_r_ : Src kU32 H L v_r_ r_) (h_d : Src kU32 H L v_d d) : Wp Tryz.prog 156 83 Q6.Kl0 (upd (upd (upd (upd (upd (upd (upd jk_ 0 (v_r_)) 1 (v_d)) 2 (.int .i64 i)) 6 (.int .u64 0)) 7 (.int .i64 n)) 9 (.int .u64 q)) 10 (.int .u64 left)) H (L) (Q6.R H0 L r) := by
 unfold Q6.b0 at he
 unfold Q6.Kl0
 refine QX <| QX <| rK he fun c16 he => rK he fun c28 he => XC (p := 22) (tl := [22, 23]) [[], [(0, some 46)], [(1, some 47)], [(2, some 48)], [(2, some 48)], [(2, some 48)], [(2, some 48), (5, some 51)], [(2, some 48), (4, some 50), (6, some 52)], [(2, some 48), (7, some 53)], [(2, some 48), (8, some 54)], [(2, some 48), (3, some 49), (9, some 55)], [(2, some 48)], [(2, some 48), (11, some 57)], [(2, some 48)], [(2, some 48)], [(2, some 48)], [(2, some 48), (14, some 60), (15, some 61)], [(2, some 48), (16, some 62)], [(2, some 48), (13, some 59), (17, some 63)], [(2, some 48), (18, some 64)], [(2, some 48), (19, some 65)], [(2, some 48), (12, some 58), (20, some 66)]] [some 46, some 47, some 48, some 49, some 50, some 51, some 52, some 53, some 54, some 55, some 56, some 57, some 58, some 59, some 60, some 61, some 62, some 63, some 64, some 65, some 66, some 67] (fctF (.is (.int .u64 q) :: .is (.bool (decide (4294967296 ≤ q))) :: .is (.bool (decide (4294967296 ≤ q))) :: .is (cond (!(decide (4294967296 ≤ q))) (.int .u64 q) undef) :: .is (cond (!(decide (4294967296 ≤ q))) v_d undef) :: .is (cond (!(decide (4294967296 ≤ q))) (.int .i64 n) undef) :: .is (cond (!(decide (4294967296 ≤ q))) (.int .i64 (w64 (n - 2))) undef) :: .is (cond (!(decide (4294967296 ≤ q))) (.pointer (some (pel v_d (w64 (n - 2)) 1))) undef) :: .is (cond (!(decide (4294967296 ≤ q))) (.int .u32 (rd d (w64 (n - 2)))) undef) :: .is (cond (!(decide (4294967296 ≤ q))) (.int .u64 ((rd d (w64 (n - 2))) % 18446744073709551616)) undef) :: .is (cond (!(decide (4294967296 ≤ q))) (.int .u64 ((q * ((rd d (w64 (n - 2))) % 18446744073709551616)) % 18446744073709551616)) undef) :: .is (cond (!(decide (4294967296 ≤ q))) (.int .u64 left) undef) :: .is (cond (!(decide (4294967296 ≤ q))) (.int .u64 ((left * 4294967296) % 18446744073709551616)) undef) :: .is (cond (!(decide (4294967296 ≤ q))) v_r_ undef) :: .is (cond (!(decide (4294967296 ≤ q))) (.int .i64 i) undef) :: .is (cond (!(decide (4294967296 ≤ q))) (.int .i64 n) undef) :: .is (cond (!(decide (4294967296 ≤ q))) (.int .i64 (w64 (i + n))) undef) :: .is (cond (!(decide (4294967296 ≤ q))) (.int .i64 (w64 ((w64 (i + n)) - 2))) undef) :: .is (cond (!(decide (4294967296 ≤ q))) (.pointer (some (pel v_r_ (w64 ((w64 (i + n)) - 2)) 1))) undef) :: .is (cond (!(decide (4294967296 ≤ q))) (.int .u32 (rd r_ (w64 ((w64 (i + n)) - 2)))) undef) :: .is (cond (!(decide (4294967296 ≤ q))) (.int .u64 ((rd r_ (w64 ((w64 (i + n)) - 2))) % 18446744073709551616)) undef) :: .is (cond (!(decide (4294967296 ≤ q))) (.int .u64 (ior .u64 ((left * 4294967296) % 18446744073709551616) ((rd r_ (w64 ((w64 (i + n)) - 2))) % 18446744073709551616))) undef) :: [])) (fun m_ => L) (fun _ => none) mixed (by kernel_rfl) (by kernel_rfl) rfl (Xq (by kernel_rfl)) ⟨(fun H' m_ hH hm_ hu_ => dn <| s_d (m_ 0) rfl (QT (v := .int .u64 q) rfl) (by exact rfl) rfl), (by rintro H' m_ hH hm_ hu_ _ rfl; exact dn <| s_d (m_ 1) rfl (ZO rfl rfl) (by exact rfl) rfl), (by rintro H' m_ hH hm_ hu_ _ rfl; exact dn <| s_d (m_ 2) rfl (QT (v := .bool (decide (4294967296 ≤ q))) rfl) (by exact rfl) rfl), (by rintro H' m_ hH hm_ hu_ _ rfl; exact dn <| s_g (g := !(decide (4294967296 ≤ q))) (m_ 3) rfl rfl rfl wn_f (fun g11 => QT (v := .int .u64 q) rfl) rfl (by exact fun g_ => cvt g_) (by exact fun g_ => cnt g_)), (by rintro H' m_ hH hm_ hu_ _ rfl; exact dn <| s_g (g := !(decide (4294967296 ≤ q))) (m_ 4) rfl rfl rfl wn_f (fun g12 => QT (v := v_d) rfl) rfl (by exact fun g_ => cvt g_) (by exact fun g_ => cnt g_)), (by rintro H' m_ hH hm_ hu_ _ rfl; exact dn <| s_g (g := !(decide (4294967296 ≤ q))) (m_ 5) rfl rfl rfl wn_f (fun g13 => QT (v := .int .i64 n) rfl) rfl (by exact fun g_ => cvt g_) (by exact fun g_ => cnt g_)), (by rintro H' m_ hH hm_ hu_ _ rfl _ rfl; exact dn <| s_g (g := !(decide (4294967296 ≤ q))) (m_ 6) rfl rfl rfl wn_f (fun g14 => YE (c := w64 (n - 2)) (cvt g14) rfl rfl) rfl (by exact fun g_ => cvt g_) (by exact fun g_ => cnt g_)), (by rintro H' m_ hH hm_ hu_ _ rfl _ rfl _ rfl; exact dn <| s_g (g := !(decide (4294967296 ≤ q))) (m_ 7) rfl rfl rfl wn_f (fun g15 => XA (sz := 1) Tryz.underlying22 sz167 (cvt g15) (h_d.mono hH) (cvt g15) (c16 g15)) rfl (by exact fun g_ => cvt g_) (by exact fun g_ => cnt g_)), (by rintro H' m_ hH hm_ hu_ _ rfl _ rfl; exact dn <| s_g (g := !(decide (4294967296 ≤ q))) (m_ 8) rfl rfl rfl wn_f (fun g17 => XR ty167 (cvt g17) (h_d.mono hH) (c16 g17)) rfl (by exact fun g_ => cvt g_) (by exact fun g_ => cnt g_)), (by rintro H' m_ hH hm_ hu_ _ rfl _ rfl; exact dn <| s_g (g := !(decide (4294967296 ≤ q))) (m_ 9) rfl rfl rfl wn_f (fun g18 => Yd (c := (rd d (w64 (n - 2))) % 18446744073709551616) Tryz.underlying167 Tryz.underlying113 (cvt g18) rfl) rfl (by exact fun g_ => cvt g_) (by exact fun g_ => cnt g_)), (by rintro H' m_ hH hm_ hu_ _ rfl _ rfl _ rfl; exact dn <| s_g (g := !(decide (4294967296 ≤ q))) (m_ 10) rfl rfl rfl wn_f (fun g19 => JD (c := (q * ((rd d (w64 (n - 2))) % 18446744073709551616)) % 18446744073709551616) (cvt g19) (cvt g19) rfl) rfl (by exact fun g_ => cvt g_) (by exact fun g_ => cnt g_)), (by rintro H' m_ hH hm_ hu_ _ rfl; exact dn <| s_g (g := !(decide (4294967296 ≤ q))) (m_ 11) rfl rfl rfl wn_f (fun g20 => QT (v := .int .u64 left) rfl) rfl (by exact fun g_ => cvt g_) (by exact fun g_ => cnt g_)), (by rintro H' m_ hH hm_ hu_ _ rfl _ rfl; exact dn <| s_g (g := !(decide (4294967296 ≤ q))) (m_ 12) rfl rfl rfl wn_f (fun g21 => Gq (c := (left * 4294967296) % 18446744073709551616) (cvt g21) rfl (by decide) rfl) rfl (by exact fun g_ => cvt g_) (by exact fun g_ => cnt g_)), (by rintro H' m_ hH hm_ hu_ _ rfl; exact dn <| s_g (g := !(decide (4294967296 ≤ q))) (m_ 13) rfl rfl rfl wn_f (fun g22 => QT (v := v_r_) rfl) rfl (by exact fun g_ => cvt g_) (by exact fun g_ => cnt g_)), (by rintro H' m_ hH hm_ hu_ _ rfl; exact dn <| s_g (g := !(decide (4294967296 ≤ q))) (m_ 14) rfl rfl rfl wn_f (fun g23 => QT (v := .int .i64 i) rfl) rfl (by exact fun g_ => cvt g_) (by exact fun g_ => cnt g_)), (by rintro H' m_ hH hm_ hu_ _ rfl; exact dn <| s_g (g := !(decide (4294967296 ≤ q))) (m_ 15) rfl rfl rfl wn_f (fun g24 => QT (v := .int .i64 n) rfl) rfl (by exact fun g_ => cvt g_) (by exact fun g_ => cnt g_)), (by rintro H' m_ hH hm_ hu_ _ rfl _ rfl _ rfl; exact dn <| s_g (g := !(decide (4294967296 ≤ q))) (m_ 16) rfl rfl rfl wn_f (fun g25 => XQ (c := w64 (i + n)) (cvt g25) (cvt g25) rfl) rfl (by exact fun g_ => cvt g_) (by exact fun g_ => cnt g_)), (by rintro H' m_ hH hm_ hu_ _ rfl _ rfl; exact dn <| s_g (g := !(decide (4294967296 ≤ q))) (m_ 17) rfl rfl rfl wn_f (fun g26 => YE (c := w64 ((w64 (i + n)) - 2)) (cvt g26) rfl rfl) rfl (by exact fun g_ => cvt g_) (by exact fun g_ => cnt g_)), (by rintro H' m_ hH hm_ hu_ _ rfl _ rfl _ rfl; exact dn <| s_g (g := !(decide (4294967296 ≤ q))) (m_ 18) rfl rfl rfl wn_f (fun g27 => XA (sz := 1) Tryz.underlying22 sz167 (cvt g27) (h_r_.mono hH) (cvt g27) (c28 g27)) rfl (by exact fun g_ => cvt g_) (by exact fun g_ => cnt g_)), (by rintro H' m_ hH hm_ hu_ _ rfl _ rfl; exact dn <| s_g (g := !(decide (4294967296 ≤ q))) (m_ 19) rfl rfl rfl wn_f (fun g29 => XR ty167 (cvt g29) (h_r_.mono hH) (c28 g29)) rfl (by exact fun g_ => cvt g_) (by exact fun g_ => cnt g_)), (by rintro H' m_ hH hm_ hu_ _ rfl _ rfl; exact dn <| s_g (g := !(decide (4294967296 ≤ q))) (m_ 20) rfl rfl rfl wn_f (fun g30 => Yd (c := (rd r_ (w64 ((w64 (i + n)) - 2))) % 18446744073709551616) Tryz.underlying167 Tryz.underlying113 (cvt g30) rfl) rfl (by exact fun g_ => cvt g_) (by exact fun g_ => cnt g_)), (by rintro H' m_ hH hm_ hu_ _ rfl _ rfl _ rfl; exact dn <| s_g (g := !(decide (4294967296 ≤ q))) (m_ 21) rfl rfl rfl wn_f (fun g31 => Gu (cvt g31) (cvt g31)) rfl (by exact fun g_ => cvt g_) (by exact fun g_ => cnt g_)), trivial⟩ ?_
 intro H32 e33
 rintro _ _ rfl _ _ rfl _ _ rfl _ _ rfl _ _ rfl _ _ rfl _ _ rfl _ _ rfl _ _ rfl _ _ rfl _ _ rfl _ _ rfl _ _ rfl _ _ rfl _ _ rfl _ _ rfl _ _ rfl _ _ rfl _ _ rfl _ _ rfl _ _ rfl _ _ rfl
 refine w_g (g := !(decide (4294967296 ≤ q))) rfl rfl rfl wn_f (fun g34 => YV (cvt g34) (cvt g34)) <| w_d rfl (d_or' (b := (decide (4294967296 ≤ q))) (p := (decide ((ior .u64 ((left * 4294967296) % 18446744073709551616) ((rd r_ (w64 ((w64 (i + n)) - 2))) % 18446744073709551616)) < ((q * ((rd d (w64 (n - 2))) % 18446744073709551616)) % 18446744073709551616)))) rfl rfl rfl) <| Qb ?_
 rcases its he with ⟨c35, he⟩ | ⟨c35, he⟩
 ·
  refine QD rfl c35 <| QF <| Q2 <| wR rfl <| wM (.int .u64 q) rfl rfl <| w_d rfl (YE (c := (q - 1) % 18446744073709551616) rfl rfl rfl) <| wA (.int .u64 ((q - 1) % 18446744073709551616)) rfl rfl <| wQ rfl <| wM (.int .u64 left) rfl rfl ?_
  refine wM v_d rfl rfl <| wM (.int .i64 n) rfl rfl <| w_d rfl (YE (c := w64 (n - 1)) rfl rfl rfl) <| rK he fun c36 he => w_d rfl (XA (sz := 1) Tryz.underlying22 sz167 rfl (h_d.mono e33) rfl c36) <| w_d rfl (XR ty167 rfl (h_d.mono e33) c36) <| w_d rfl (Yd (c := (rd d (w64 (n - 1))) % 18446744073709551616) Tryz.underlying167 Tryz.underlying113 rfl rfl) <| w_d rfl (XQ (c := (left + ((rd d (w64 (n - 1))) % 18446744073709551616)) % 18446744073709551616) rfl rfl rfl) <| wA (.int .u64 ((left + ((rd d (w64 (n - 1))) % 18446744073709551616)) % 18446744073709551616)) rfl rfl <| wQ rfl ?_
  refine wM (.int .u64 ((left + ((rd d (w64 (n - 1))) % 18446744073709551616)) % 18446744073709551616)) rfl rfl <| w_d rfl (ZO rfl rfl) <| Qb ?_
  rcases its he with ⟨c37, he⟩ | ⟨c37, he⟩
  ·
   refine QD rfl (dt c37) <| X3 rfl <| wR rfl <| wM (.int .u64 ((q - 1) % 18446744073709551616)) rfl rfl <| wA (.int .u64 ((q - 1) % 18446744073709551616)) rfl rfl <| Qb ?_
   obtain rfl := sj he
   refine Ql fn_156 rs_156 (.tmp (v := .int .u64 ((q - 1) % 18446744073709551616)) rfl .nil) <| ⟨⟨[], rfl⟩, hle.trans e33, rfl⟩
  ·
   refine QE rfl (df c37) <| QF <| Xw <| XG <| w_sl 0 (v_r_) rfl <| w_sl 1 (v_d) rfl <| w_sl 2 (.int .i64 i) rfl <| w_sl 6 (.int .u64 0) rfl <| w_sl 7 (.int .i64 n) rfl <| w_sl 9 (.int .u64 ((q - 1) % 18446744073709551616)) rfl <| w_sl 10 (.int .u64 ((left + ((rd d (w64 (n - 1))) % 18446744073709551616)) % 18446744073709551616)) rfl <| hh.l0 (hle.trans e33) he (h_r_.mono e33) (h_d.mono e33)
 ·
  refine QE rfl (Bool.eq_false_iff.2 c35) <| X3 rfl <| wR rfl <| wM (.int .u64 q) rfl rfl <| wA (.int .u64 q) rfl rfl <| Qb ?_
  obtain rfl := sj he
  refine Ql fn_156 rs_156 (.tmp (v := .int .u64 q) rfl .nil) <| ⟨⟨[], rfl⟩, hle.trans e33, rfl⟩
theorem Q6.ok : ∀ k, Q6.OK (Q6.hs k)
 | 0 => ⟨(by intros; exact nomatch (show none = some _ from by assumption))⟩
 | k + 1 => ⟨Q6.b0_ok (k := k) (Q6.ok k)⟩
theorem Q6.calls (k : Nat) {H : Hp} {L : Items} {r_ d : List Int} {i : Int} {v0_r_ v1_d : Value} {r : Int} (he : Q6.f k r_ d i = some r) (h0_r_ : Src kU32 H L v0_r_ r_) (h1_d : Src kU32 H L v1_d d) : Ct Tryz.prog 156 ⟨[v0_r_, v1_d, .int .i64 i]⟩ H L (fun v H' L' => L = L' ∧ H = H' ∧ v = .int .u64 r) := by
 refine Yp (O := Q6.out r) (fun _ _ h => h) ?_
 have hle : H.le H := .refl _
 have hh := Q6.ok k
 unfold Q6.f at he
 refine QV (args := [_, _, _]) fn_156 rfl nt_156 rfl <| wR rfl <| wA (.int .u64 0) rfl rfl <| wQ rfl <| wM v1_d rfl rfl <| w_d rfl (Xo Tryz.underlying22 rfl h1_d) <| wA (.int .i64 (d.length : Int)) rfl rfl <| wE ?_
 refine rK he fun c1 he => rK he fun c2 he => XC (p := 16) (tl := [16, 17]) [[], [], [], [(1, some 14), (2, some 15)], [(0, some 13), (3, some 16)], [(4, some 17)], [(5, some 18)], [(6, some 19)], [], [], [], [(9, some 22), (10, some 23)], [(11, some 24)], [(8, some 21), (12, some 25)], [(13, some 26)], [(14, some 27)]] [some 13, some 14, some 15, some 16, some 17, some 18, some 19, some 20, some 21, some 22, some 23, some 24, some 25, some 26, some 27, some 28] (fctF (.is (v0_r_) :: .is (.int .i64 i) :: .is (.int .i64 (d.length : Int)) :: .is (.int .i64 (w64 (i + (d.length : Int)))) :: .is (.pointer (some (pel v0_r_ (w64 (i + (d.length : Int))) 1))) :: .is (.int .u32 (rd r_ (w64 (i + (d.length : Int))))) :: .is (.int .u64 ((rd r_ (w64 (i + (d.length : Int)))) % 18446744073709551616)) :: .is (.int .u64 ((((rd r_ (w64 (i + (d.length : Int)))) % 18446744073709551616) * 4294967296) % 18446744073709551616)) :: .is (v0_r_) :: .is (.int .i64 i) :: .is (.int .i64 (d.length : Int)) :: .is (.int .i64 (w64 (i + (d.length : Int)))) :: .is (.int .i64 (w64 ((w64 (i + (d.length : Int))) - 1))) :: .is (.pointer (some (pel v0_r_ (w64 ((w64 (i + (d.length : Int))) - 1)) 1))) :: .is (.int .u32 (rd r_ (w64 ((w64 (i + (d.length : Int))) - 1)))) :: .is (.int .u64 ((rd r_ (w64 ((w64 (i + (d.length : Int))) - 1))) % 18446744073709551616)) :: [])) (fun m_ => L) (fun _ => none) mixed (by kernel_rfl) (by kernel_rfl) rfl (Xq (by kernel_rfl)) ⟨(fun H' m_ hH hm_ hu_ => dn <| s_d (m_ 0) rfl (QT (v := v0_r_) rfl) (by exact rfl) rfl), (fun H' m_ hH hm_ hu_ => dn <| s_d (m_ 1) rfl (QT (v := .int .i64 i) rfl) (by exact rfl) rfl), (fun H' m_ hH hm_ hu_ => dn <| s_d (m_ 2) rfl (QT (v := .int .i64 (d.length : Int)) rfl) (by exact rfl) rfl), (by rintro H' m_ hH hm_ hu_ _ rfl _ rfl; exact dn <| s_d (m_ 3) rfl (XQ (c := w64 (i + (d.length : Int))) rfl rfl rfl) (by exact rfl) rfl), (by rintro H' m_ hH hm_ hu_ _ rfl _ rfl; exact dn <| s_d (m_ 4) rfl (XA (sz := 1) Tryz.underlying22 sz167 rfl (h0_r_.mono hH) rfl c1) (by exact rfl) rfl), (by rintro H' m_ hH hm_ hu_ _ rfl; exact dn <| s_d (m_ 5) rfl (XR ty167 rfl (h0_r_.mono hH) c1) (by exact rfl) rfl), (by rintro H' m_ hH hm_ hu_ _ rfl; exact dn <| s_d (m_ 6) rfl (Yd (c := (rd r_ (w64 (i + (d.length : Int)))) % 18446744073709551616) Tryz.underlying167 Tryz.underlying113 rfl rfl) (by exact rfl) rfl), (by rintro H' m_ hH hm_ hu_ _ rfl; exact dn <| s_d (m_ 7) rfl (Gq (c := (((rd r_ (w64 (i + (d.length : Int)))) % 18446744073709551616) * 4294967296) % 18446744073709551616) rfl rfl (by decide) rfl) (by exact rfl) rfl), (fun H' m_ hH hm_ hu_ => dn <| s_d (m_ 8) rfl (QT (v := v0_r_) rfl) (by exact rfl) rfl), (fun H' m_ hH hm_ hu_ => dn <| s_d (m_ 9) rfl (QT (v := .int .i64 i) rfl) (by exact rfl) rfl), (fun H' m_ hH hm_ hu_ => dn <| s_d (m_ 10) rfl (QT (v := .int .i64 (d.length : Int)) rfl) (by exact rfl) rfl), (by rintro H' m_ hH hm_ hu_ _ rfl _ rfl; exact dn <| s_d (m_ 11) rfl (XQ (c := w64 (i + (d.length : Int))) rfl rfl rfl) (by exact rfl) rfl), (by rintro H' m_ hH hm_ hu_ _ rfl; exact dn <| s_d (m_ 12) rfl (YE (c := w64 ((w64 (i + (d.length : Int))) - 1)) rfl rfl rfl) (by exact rfl) rfl), (by rintro H' m_ hH hm_ hu_ _ rfl _ rfl; exact dn <| s_d (m_ 13) rfl (XA (sz := 1) Tryz.underlying22 sz167 rfl (h0_r_.mono hH) rfl c2) (by exact rfl) rfl), (by rintro H' m_ hH hm_ hu_ _ rfl; exact dn <| s_d (m_ 14) rfl (XR ty167 rfl (h0_r_.mono hH) c2) (by exact rfl) rfl), (by rintro H' m_ hH hm_ hu_ _ rfl; exact dn <| s_d (m_ 15) rfl (Yd (c := (rd r_ (w64 ((w64 (i + (d.length : Int))) - 1))) % 18446744073709551616) Tryz.underlying167 Tryz.underlying113 rfl rfl) (by exact rfl) rfl), trivial⟩ ?_
 intro H3 e4
 rintro _ _ rfl _ _ rfl _ _ rfl _ _ rfl _ _ rfl _ _ rfl _ _ rfl _ _ rfl _ _ rfl _ _ rfl _ _ rfl _ _ rfl _ _ rfl _ _ rfl _ _ rfl _ _ rfl
 refine w_d rfl (Gu rfl rfl) <| wA (.int .u64 (ior .u64 ((((rd r_ (w64 (i + (d.length : Int)))) % 18446744073709551616) * 4294967296) % 18446744073709551616) ((rd r_ (w64 ((w64 (i + (d.length : Int))) - 1))) % 18446744073709551616))) rfl rfl <| wE <| rK he fun c5 he => rK he fun c6 he => rK he fun c7 he => rK he fun c8 he => XC (p := 17) (tl := [17]) [[], [], [], [(2, some 32)], [(1, some 31), (3, some 33)], [(4, some 34)], [(5, some 35)], [(0, some 30), (6, some 36)], [], [], [], [(10, some 40)], [(9, some 39), (11, some 41)], [(12, some 42)], [(13, some 43)], [(8, some 38), (14, some 44)], [(7, some 37)]] [some 30, some 31, some 32, some 33, some 34, some 35, some 36, some 37, some 38, some 39, some 40, some 41, some 42, some 43, some 44, some 45, some 9] (fctF (.is (.int .u64 (ior .u64 ((((rd r_ (w64 (i + (d.length : Int)))) % 18446744073709551616) * 4294967296) % 18446744073709551616) ((rd r_ (w64 ((w64 (i + (d.length : Int))) - 1))) % 18446744073709551616))) :: .is (v1_d) :: .is (.int .i64 (d.length : Int)) :: .is (.int .i64 (w64 ((d.length : Int) - 1))) :: .is (.pointer (some (pel v1_d (w64 ((d.length : Int) - 1)) 1))) :: .is (.int .u32 (rd d (w64 ((d.length : Int) - 1)))) :: .is (.int .u64 ((rd d (w64 ((d.length : Int) - 1))) % 18446744073709551616)) :: .is (.int .u64 ((Int.tdiv (ior .u64 ((((rd r_ (w64 (i + (d.length : Int)))) % 18446744073709551616) * 4294967296) % 18446744073709551616) ((rd r_ (w64 ((w64 (i + (d.length : Int))) - 1))) % 18446744073709551616)) ((rd d (w64 ((d.length : Int) - 1))) % 18446744073709551616)) % 18446744073709551616)) :: .is (.int .u64 (ior .u64 ((((rd r_ (w64 (i + (d.length : Int)))) % 18446744073709551616) * 4294967296) % 18446744073709551616) ((rd r_ (w64 ((w64 (i + (d.length : Int))) - 1))) % 18446744073709551616))) :: .is (v1_d) :: .is (.int .i64 (d.length : Int)) :: .is (.int .i64 (w64 ((d.length : Int) - 1))) :: .is (.pointer (some (pel v1_d (w64 ((d.length : Int) - 1)) 1))) :: .is (.int .u32 (rd d (w64 ((d.length : Int) - 1)))) :: .is (.int .u64 ((rd d (w64 ((d.length : Int) - 1))) % 18446744073709551616)) :: .is (.int .u64 (Int.tmod (ior .u64 ((((rd r_ (w64 (i + (d.length : Int)))) % 18446744073709551616) * 4294967296) % 18446744073709551616) ((rd r_ (w64 ((w64 (i + (d.length : Int))) - 1))) % 18446744073709551616)) ((rd d (w64 ((d.length : Int) - 1))) % 18446744073709551616))) :: .is (.int .u64 ((Int.tdiv (ior .u64 ((((rd r_ (w64 (i + (d.length : Int)))) % 18446744073709551616) * 4294967296) % 18446744073709551616) ((rd r_ (w64 ((w64 (i + (d.length : Int))) - 1))) % 18446744073709551616)) ((rd d (w64 ((d.length : Int) - 1))) % 18446744073709551616)) % 18446744073709551616)) :: [])) (fun m_ => L) (fun _ => none) mixed (by kernel_rfl) (by kernel_rfl) rfl (Xq (by kernel_rfl)) ⟨(fun H' m_ hH hm_ hu_ => dn <| s_d (m_ 0) rfl (QT (v := .int .u64 (ior .u64 ((((rd r_ (w64 (i + (d.length : Int)))) % 18446744073709551616) * 4294967296) % 18446744073709551616) ((rd r_ (w64 ((w64 (i + (d.length : Int))) - 1))) % 18446744073709551616))) rfl) (by exact rfl) rfl), (fun H' m_ hH hm_ hu_ => dn <| s_d (m_ 1) rfl (QT (v := v1_d) rfl) (by exact rfl) rfl), (fun H' m_ hH hm_ hu_ => dn <| s_d (m_ 2) rfl (QT (v := .int .i64 (d.length : Int)) rfl) (by exact rfl) rfl), (by rintro H' m_ hH hm_ hu_ _ rfl; exact dn <| s_d (m_ 3) rfl (YE (c := w64 ((d.length : Int) - 1)) rfl rfl rfl) (by exact rfl) rfl), (by rintro H' m_ hH hm_ hu_ _ rfl _ rfl; exact dn <| s_d (m_ 4) rfl (XA (sz := 1) Tryz.underlying22 sz167 rfl (h1_d.mono (e4.trans hH)) rfl c5) (by exact rfl) rfl), (by rintro H' m_ hH hm_ hu_ _ rfl; exact dn <| s_d (m_ 5) rfl (XR ty167 rfl (h1_d.mono (e4.trans hH)) c5) (by exact rfl) rfl), (by rintro H' m_ hH hm_ hu_ _ rfl; exact dn <| s_d (m_ 6) rfl (Yd (c := (rd d (w64 ((d.length : Int) - 1))) % 18446744073709551616) Tryz.underlying167 Tryz.underlying113 rfl rfl) (by exact rfl) rfl), (by rintro H' m_ hH hm_ hu_ _ rfl _ rfl; exact dn <| s_d (m_ 7) rfl (Jn (c := (Int.tdiv (ior .u64 ((((rd r_ (w64 (i + (d.length : Int)))) % 18446744073709551616) * 4294967296) % 18446744073709551616) ((rd r_ (w64 ((w64 (i + (d.length : Int))) - 1))) % 18446744073709551616)) ((rd d (w64 ((d.length : Int) - 1))) % 18446744073709551616)) % 18446744073709551616) rfl rfl c6 rfl) (by exact rfl) rfl), (fun H' m_ hH hm_ hu_ => dn <| s_d (m_ 8) rfl (QT (v := .int .u64 (ior .u64 ((((rd r_ (w64 (i + (d.length : Int)))) % 18446744073709551616) * 4294967296) % 18446744073709551616) ((rd r_ (w64 ((w64 (i + (d.length : Int))) - 1))) % 18446744073709551616))) rfl) (by exact rfl) rfl), (fun H' m_ hH hm_ hu_ => dn <| s_d (m_ 9) rfl (QT (v := v1_d) rfl) (by exact rfl) rfl), (fun H' m_ hH hm_ hu_ => dn <| s_d (m_ 10) rfl (QT (v := .int .i64 (d.length : Int)) rfl) (by exact rfl) rfl), (by rintro H' m_ hH hm_ hu_ _ rfl; exact dn <| s_d (m_ 11) rfl (YE (c := w64 ((d.length : Int) - 1)) rfl rfl rfl) (by exact rfl) rfl), (by rintro H' m_ hH hm_ hu_ _ rfl _ rfl; exact dn <| s_d (m_ 12) rfl (XA (sz := 1) Tryz.underlying22 sz167 rfl (h1_d.mono (e4.trans hH)) rfl c7) (by exact rfl) rfl), (by rintro H' m_ hH hm_ hu_ _ rfl; exact dn <| s_d (m_ 13) rfl (XR ty167 rfl (h1_d.mono (e4.trans hH)) c7) (by exact rfl) rfl), (by rintro H' m_ hH hm_ hu_ _ rfl; exact dn <| s_d (m_ 14) rfl (Yd (c := (rd d (w64 ((d.length : Int) - 1))) % 18446744073709551616) Tryz.underlying167 Tryz.underlying113 rfl rfl) (by exact rfl) rfl), (by rintro H' m_ hH hm_ hu_ _ rfl _ rfl; exact dn <| s_d (m_ 15) rfl (Jj rfl rfl c8) (by exact rfl) rfl), (by rintro H' m_ hH hm_ hu_ _ rfl; exact dn <| s_d (m_ 16) rfl (GO (v := .int .u64 ((Int.tdiv (ior .u64 ((((rd r_ (w64 (i + (d.length : Int)))) % 18446744073709551616) * 4294967296) % 18446744073709551616) ((rd r_ (w64 ((w64 (i + (d.length : Int))) - 1))) % 18446744073709551616)) ((rd d (w64 ((d.length : Int) - 1))) % 18446744073709551616)) % 18446744073709551616)) rfl) (by exact rfl) rfl), trivial⟩ ?_
 intro H9 e10
 rintro _ _ rfl _ _ rfl _ _ rfl _ _ rfl _ _ rfl _ _ rfl _ _ rfl _ _ rfl _ _ rfl _ _ rfl _ _ rfl _ _ rfl _ _ rfl _ _ rfl _ _ rfl _ _ rfl _ _ rfl
 refine wA (.int .u64 (Int.tmod (ior .u64 ((((rd r_ (w64 (i + (d.length : Int)))) % 18446744073709551616) * 4294967296) % 18446744073709551616) ((rd r_ (w64 ((w64 (i + (d.length : Int))) - 1))) % 18446744073709551616)) ((rd d (w64 ((d.length : Int) - 1))) % 18446744073709551616))) rfl rfl <| wE <| Q2 <| X5 <| w_sl 0 (v0_r_) rfl <| w_sl 1 (v1_d) rfl <| w_sl 2 (.int .i64 i) rfl <| w_sl 6 (.int .u64 0) rfl <| w_sl 7 (.int .i64 (d.length : Int)) rfl <| w_sl 9 (.int .u64 ((Int.tdiv (ior .u64 ((((rd r_ (w64 (i + (d.length : Int)))) % 18446744073709551616) * 4294967296) % 18446744073709551616) ((rd r_ (w64 ((w64 (i + (d.length : Int))) - 1))) % 18446744073709551616)) ((rd d (w64 ((d.length : Int) - 1))) % 18446744073709551616)) % 18446744073709551616)) rfl <| w_sl 10 (.int .u64 (Int.tmod (ior .u64 ((((rd r_ (w64 (i + (d.length : Int)))) % 18446744073709551616) * 4294967296) % 18446744073709551616) ((rd r_ (w64 ((w64 (i + (d.length : Int))) - 1))) % 18446744073709551616)) ((rd d (w64 ((d.length : Int) - 1))) % 18446744073709551616))) rfl <| hh.l0 (hle.trans (e4.trans e10)) he (h0_r_.mono (e4.trans e10)) (h1_d.mono (e4.trans e10))
end Go.Proofs.YtkccpkccdbfomaaGreatDoor.GBP

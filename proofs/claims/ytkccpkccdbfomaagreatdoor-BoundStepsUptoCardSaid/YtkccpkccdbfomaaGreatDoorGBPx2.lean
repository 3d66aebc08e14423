/- printed by gen.py -/
import Derived.Test.YtkccpkccdbfomaaGreatDoorGBPx1
namespace Go.Proofs.YtkccpkccdbfomaaGreatDoor.GBP
open Go Go.RowKit Go.Proofs.YtkccpkccdbfomaaGreatDoorK Go.Proofs.YtkccpkccdbfomaaGreatDoor
set_option maxRecDepth 100000
set_option maxHeartbeats 2000000
set_option linter.unusedVariables false
set_option linter.unusedSimpArgs false
noncomputable def Qz.C : Code := (Tryz.f157.body).getD .skip
def Qz.out (r : Bool × (List Int)) (H : Hp) (v : Value) : Prop := v = .bool r.1
abbrev Qz.R (vr_ : Value) (H0 : Hp) (L : Items) (r : Bool × (List Int)) : Value → Hp → Items → Prop := fun v H' L' => (∃ p it', L' = p ++ it' :: L ∧ Sl kU32 H' 167 it' vr_ r.2) ∧ H0.le H' ∧ v = .bool r.1
structure Qz.Hs where
 l0 : (List Int) → (List Int) → Int → Int → Int → Int → Int → Option (Bool × (List Int))
noncomputable def Qz.j2 (k : Nat) (h : Qz.Hs) (r_ d : List Int) (i q borrow carry j_ p : Int) : Option (Bool × (List Int)) := if (0 : Int) ≤ w64 (i + j_) ∧ w64 (i + j_) < (r_.length : Int) then (if (0 : Int) ≤ w64 (i + j_) ∧ w64 (i + j_) < (r_.length : Int) then (h.l0 (r_.set (w64 (i + j_) : Int).toNat ((w64 ((w64 ((w64 (rd r_ (w64 (i + j_)))) - (w64 ((p) % 4294967296)))) + borrow)) % 4294967296)) d i q ((w64 ((w64 ((w64 (rd r_ (w64 (i + j_)))) - (w64 ((p) % 4294967296)))) + borrow)) / 4294967296) (p / 4294967296) (w64 (j_ + 1))) else none) else none
noncomputable def Qz.b0 (k : Nat) (h : Qz.Hs) (r_ d : List Int) (i q borrow carry j_ : Int) : Option (Bool × (List Int)) := if j_ ≤ (d.length : Int) then (if j_ < (d.length : Int) then (if (0 : Int) ≤ j_ ∧ j_ < (d.length : Int) then (Qz.j2 k h r_ d i q borrow carry j_ ((carry + ((q * ((rd d j_) % 18446744073709551616)) % 18446744073709551616)) % 18446744073709551616)) else none) else (Qz.j2 k h r_ d i q borrow carry j_ carry)) else (some (decide (borrow < 0), r_))
noncomputable def Qz.hs : Nat → Qz.Hs
 | 0 => ⟨fun _ _ _ _ _ _ _ => none⟩
 | k + 1 => ⟨fun x0 x1 x2 x3 x4 x5 x6 => Qz.b0 k (Qz.hs k) x0 x1 x2 x3 x4 x5 x6⟩
noncomputable def Qz.f (k : Nat) (r_ d : List Int) (i q : Int) : Option (Bool × (List Int)) := (fun h : Qz.Hs => h.l0 r_ d i q 0 0 0) (Qz.hs k)
structure Qz.LE (h h' : Qz.Hs) : Prop where
 l0 : ∀ y0 y1 y2 y3 y4 y5 y6, LeO (h.l0 y0 y1 y2 y3 y4 y5 y6) (h'.l0 y0 y1 y2 y3 y4 y5 y6)
theorem Qz.j2_mono {k : Nat} {h h' : Qz.Hs} (hl : Qz.LE h h') : ∀ y0 y1 y2 y3 y4 y5 y6 y7, LeO (Qz.j2 k h y0 y1 y2 y3 y4 y5 y6 y7) (Qz.j2 (k + 1) h' y0 y1 y2 y3 y4 y5 y6 y7) := fun _ _ _ _ _ _ _ _ => (LeO.ite (LeO.ite (hl.l0 _ _ _ _ _ _ _) (LeO.refl _)) (LeO.refl _))
theorem Qz.b0_mono {k : Nat} {h h' : Qz.Hs} (hl : Qz.LE h h') : ∀ y0 y1 y2 y3 y4 y5 y6, LeO (Qz.b0 k h y0 y1 y2 y3 y4 y5 y6) (Qz.b0 (k + 1) h' y0 y1 y2 y3 y4 y5 y6) := fun _ _ _ _ _ _ _ => (LeO.ite (LeO.ite (LeO.ite (Qz.j2_mono (k := k) hl _ _ _ _ _ _ _ _) (LeO.refl _)) (Qz.j2_mono (k := k) hl _ _ _ _ _ _ _ _)) (LeO.refl _))
theorem Qz.hs_mono : ∀ k, Qz.LE (Qz.hs k) (Qz.hs (k + 1))
 | 0 => ⟨fun _ _ _ _ _ _ _ => LeO.none _⟩
 | k + 1 => ⟨Qz.b0_mono (k := k) (Qz.hs_mono k)⟩
theorem Qz.mono : ∀ k y0 y1 y2 y3, LeO (Qz.f k y0 y1 y2 y3) (Qz.f (k + 1) y0 y1 y2 y3) := fun k _ _ _ _ => have hl := Qz.hs_mono k; by unfold Qz.f; exact (hl.l0 _ _ _ _ _ _ _)
noncomputable def Qz.Kl0 : List Item := .code (lopB (blkB (seqR (seqL (seqR (seqR (seqR Qz.C))))))) :: .inLoop (lopB (blkB (seqR (seqL (seqR (seqR (seqR Qz.C))))))) :: .inBlock 0 :: .code (seqR (seqR (seqR (seqR Qz.C)))) :: []
noncomputable def Qz.Kj2 : List Item := .code (seqR (seqR (blkB (seqL (seqR (lopB (blkB (seqR (seqL (seqR (seqR (seqR Qz.C)))))))))))) :: .inBlock 1 :: .code (seqR (seqR (lopB (blkB (seqR (seqL (seqR (seqR (seqR Qz.C))))))))) :: .inLoop (lopB (blkB (seqR (seqL (seqR (seqR (seqR Qz.C))))))) :: .inBlock 0 :: .code (seqR (seqR (seqR (seqR Qz.C)))) :: []
structure Qz.OK (h : Qz.Hs) : Prop where
 l0 : ∀ {H0 H : Hp} {L : Items} {r : Bool × (List Int)} {jk_ : Nat → Value} {r_ : List Int} {d : List Int} {i : Int} {q : Int} {borrow : Int} {carry : Int} {j_ : Int} {vr_ : Value} {v_d : Value} {i_r_ : Item'} (_ : H0.le H) (_he : h.l0 r_ d i q borrow carry j_ = some r) (_h_r_ : Sl kU32 H 167 i_r_ vr_ r_) (_h_d : Src kU32 H L v_d d), Wp Tryz.prog 157 60 Qz.Kl0 (upd (upd (upd (upd (upd (upd (upd (upd jk_ 0 (vr_)) 1 (v_d)) 2 (.int .i64 i)) 3 (.int .u64 q)) 8 (.bool false)) 9 (.int .i64 borrow)) 10 (.int .u64 carry)) 11 (.int .i64 j_)) H (i_r_ :: L) (Qz.R vr_ H0 L r)
theorem Qz.j2_ok {k : Nat} {h : Qz.Hs} (hh : Qz.OK h) {H0 H : Hp} {L : Items} {r : Bool × (List Int)} {jk_ : Nat → Value} {r_ d : List Int} {i q borrow carry j_ p : Int} {vr_ v_d : Value} {i_r_ : Item'} (hle : H0.le H) (he : Qz.j2 k h r_ d i q borrow carry j_ p = some r) (h_r_ : Sl kU32 H 167 i_r_ vr_ r_) (h_d : Src kU32 H L v_d d) : Wp Tryz.prog 157 60 Qz.Kj2 (upd (upd (upd (upd (upd (upd (upd (upd (upd jk_ 0 (vr_)) 1 (v_d)) 2 (.int .i64 i)) 3 (.int .u64 q)) 8 (.bool false)) 9 (.int .i64 borrow)) 10 (.int .u64 carry)) 11 (.int .i64 j_)) 12 (.int .u64 p)) H (i_r_ :: L) (Qz.R vr_ H0 L r) := by
 unfold Qz.j2 at he
 unfold Qz.Kj2
 refine wR rfl <| wM (.int .u64 p) rfl rfl <| w_d rfl (Jb (c := p / 4294967296) rfl rfl (by decide) rfl) <| wA (.int .u64 (p / 4294967296)) rfl rfl <| wQ rfl <| wM vr_ rfl rfl <| wM (.int .i64 i) rfl rfl <| wM (.int .i64 j_) rfl rfl <| w_d rfl (XQ (c := w64 (i + j_)) rfl rfl rfl) ?_
 refine rK he fun c4 he => w_d rfl (YM (sz := 1) Tryz.underlying22 sz167 rfl h_r_.shp rfl c4) <| w_d rfl (XR ty167 rfl (h_r_.src .here) c4) <| w_d rfl (Yd (c := w64 (rd r_ (w64 (i + j_)))) Tryz.underlying167 Tryz.underlying2 rfl rfl) <| wM (.int .u64 p) rfl rfl <| w_d rfl (Yd (c := (p) % 4294967296) Tryz.underlying113 Tryz.underlying167 rfl rfl) <| w_d rfl (Yd (c := w64 ((p) % 4294967296)) Tryz.underlying167 Tryz.underlying2 rfl rfl) <| w_d rfl (YE (c := w64 ((w64 (rd r_ (w64 (i + j_)))) - (w64 ((p) % 4294967296)))) rfl rfl rfl) <| wM (.int .i64 borrow) rfl rfl <| w_d rfl (XQ (c := w64 ((w64 ((w64 (rd r_ (w64 (i + j_)))) - (w64 ((p) % 4294967296)))) + borrow)) rfl rfl rfl) <| wA (.int .i64 (w64 ((w64 ((w64 (rd r_ (w64 (i + j_)))) - (w64 ((p) % 4294967296)))) + borrow))) rfl rfl <| Qb ?_
 refine wR rfl <| wM vr_ rfl rfl <| wM (.int .i64 i) rfl rfl <| wM (.int .i64 j_) rfl rfl <| w_d rfl (XQ (c := w64 (i + j_)) rfl rfl rfl) <| wM (.int .i64 (w64 ((w64 ((w64 (rd r_ (w64 (i + j_)))) - (w64 ((p) % 4294967296)))) + borrow))) rfl rfl <| w_d rfl (Yd (c := (w64 ((w64 ((w64 (rd r_ (w64 (i + j_)))) - (w64 ((p) % 4294967296)))) + borrow)) % 4294967296) Tryz.underlying2 Tryz.underlying167 rfl rfl) <| rK he fun c5 he => w_d rfl (YM (sz := 1) Tryz.underlying22 sz167 rfl h_r_.shp rfl c5) <| w_a0 rfl (Y1 (kd := kU32) (v := .int .u32 ((w64 ((w64 ((w64 (rd r_ (w64 (i + j_)))) - (w64 ((p) % 4294967296)))) + borrow)) % 4294967296)) (F := fun z_ => z_ :: L) sz167 rfl rfl rfl rfl h_r_ c5 (fun _ => .here)) ?_
 rintro _ _ _ ⟨i6, rfl, rfl, rfl, h7⟩
 refine Qb <| QL rfl <| wM (.int .i64 (w64 ((w64 ((w64 (rd r_ (w64 (i + j_)))) - (w64 ((p) % 4294967296)))) + borrow))) rfl rfl <| w_d rfl (Jb (c := (w64 ((w64 ((w64 (rd r_ (w64 (i + j_)))) - (w64 ((p) % 4294967296)))) + borrow)) / 4294967296) rfl rfl (by decide) rfl) <| wA (.int .i64 ((w64 ((w64 ((w64 (rd r_ (w64 (i + j_)))) - (w64 ((p) % 4294967296)))) + borrow)) / 4294967296)) rfl rfl <| Qb <| Xw <| QL rfl <| wM (.int .i64 j_) rfl rfl <| w_d rfl (XQ (c := w64 (j_ + 1)) rfl rfl rfl) <| wA (.int .i64 (w64 (j_ + 1))) rfl rfl <| Qb ?_
 refine XG <| w_sl 0 (vr_) rfl <| w_sl 1 (v_d) rfl <| w_sl 2 (.int .i64 i) rfl <| w_sl 3 (.int .u64 q) rfl <| w_sl 8 (.bool false) rfl <| w_sl 9 (.int .i64 ((w64 ((w64 ((w64 (rd r_ (w64 (i + j_)))) - (w64 ((p) % 4294967296)))) + borrow)) / 4294967296)) rfl <| w_sl 10 (.int .u64 (p / 4294967296)) rfl <| w_sl 11 (.int .i64 (w64 (j_ + 1))) rfl <| hh.l0 hle he h7 h_d
theorem Qz.b0_ok {k : Nat} {h : Qz.Hs} (hh : Qz.OK h) {H0 H : Hp} {L : Items} {r : Bool × (List Int)} {jk_ : Nat → Value} {r_ d : List Int} {i q borrow carry j_ : Int} {vr_ v_d : Value} {i_r_ : Item'} (hle : H0.le H) (he : Qz.b0 k h r_ d i q borrow carry j_ = some r) (h_r_ : Sl kU32 H 167 i_r_ vr_ r_) (h_d : Src kU32 H L v_d d) : Wp Tryz.prog 157 60 Qz.Kl0 (upd (upd (upd (upd (upd (upd (upd (upd jk_ 0 (vr_)) 1 (v_d)) 2 (.int .i64 i)) 3 (.int .u64 q)) 8 (.bool false)) 9 (.int .i64 borrow)) 10 (.int .u64 carry)) 11 (.int .i64 j_)) H (i_r_ :: L) (Qz.R vr_ H0 L r) := by
 unfold Qz.b0 at he
 unfold Qz.Kl0
 refine QX <| wR rfl <| wM (.int .i64 j_) rfl rfl <| wM v_d rfl rfl <| w_d rfl (Xo Tryz.underlying22 rfl h_d.th) <| w_d rfl (MB rfl rfl) <| Qb ?_
 rcases its he with ⟨c1, he⟩ | ⟨c1, he⟩
 ·
  refine QD rfl (dt c1) <| QF <| QX <| Q2 <| wR rfl <| wM (.int .u64 carry) rfl rfl <| wA (.int .u64 carry) rfl rfl <| wE <| wR rfl ?_
  refine wM (.int .i64 j_) rfl rfl <| wM v_d rfl rfl <| w_d rfl (Xo Tryz.underlying22 rfl h_d.th) <| w_d rfl (XW rfl rfl) <| Qb ?_
  rcases its he with ⟨c2, he⟩ | ⟨c2, he⟩
  ·
   refine QD rfl (dt c2) <| QL rfl <| wM (.int .u64 carry) rfl rfl <| wM (.int .u64 q) rfl rfl <| wM v_d rfl rfl <| wM (.int .i64 j_) rfl rfl <| rK he fun c3 he => w_d rfl (XA (sz := 1) Tryz.underlying22 sz167 rfl h_d.th rfl c3) <| w_d rfl (XR ty167 rfl h_d.th c3) <| w_d rfl (Yd (c := (rd d j_) % 18446744073709551616) Tryz.underlying167 Tryz.underlying113 rfl rfl) <| w_d rfl (JD (c := (q * ((rd d j_) % 18446744073709551616)) % 18446744073709551616) rfl rfl rfl) <| w_d rfl (XQ (c := (carry + ((q * ((rd d j_) % 18446744073709551616)) % 18446744073709551616)) % 18446744073709551616) rfl rfl rfl) ?_
   refine wA (.int .u64 ((carry + ((q * ((rd d j_) % 18446744073709551616)) % 18446744073709551616)) % 18446744073709551616)) rfl rfl <| Qb <| w_sl 0 (vr_) rfl <| w_sl 1 (v_d) rfl <| w_sl 2 (.int .i64 i) rfl <| w_sl 3 (.int .u64 q) rfl <| w_sl 8 (.bool false) rfl <| w_sl 9 (.int .i64 borrow) rfl <| w_sl 10 (.int .u64 carry) rfl <| w_sl 11 (.int .i64 j_) rfl <| w_sl 12 (.int .u64 ((carry + ((q * ((rd d j_) % 18446744073709551616)) % 18446744073709551616)) % 18446744073709551616)) rfl <| Qz.j2_ok (k := k) hh hle he h_r_ h_d
  ·
   refine QE rfl (df c2) <| QF <| w_sl 0 (vr_) rfl <| w_sl 1 (v_d) rfl <| w_sl 2 (.int .i64 i) rfl <| w_sl 3 (.int .u64 q) rfl <| w_sl 8 (.bool false) rfl <| w_sl 9 (.int .i64 borrow) rfl <| w_sl 10 (.int .u64 carry) rfl <| w_sl 11 (.int .i64 j_) rfl <| w_sl 12 (.int .u64 carry) rfl <| Qz.j2_ok (k := k) hh hle he h_r_ h_d
 ·
  refine QE rfl (df c1) <| X3 rfl <| wR rfl <| wM (.int .i64 borrow) rfl rfl <| w_d rfl (XW rfl rfl) <| wA (.bool (decide (borrow < 0))) rfl rfl <| Qb ?_
  obtain rfl := sj he
  refine Ql fn_157 rs_157 (.tmp (v := .bool (decide (borrow < 0))) rfl .nil) <| ⟨⟨[], _, rfl, h_r_⟩, hle, rfl⟩
theorem Qz.ok : ∀ k, Qz.OK (Qz.hs k)
 | 0 => ⟨(by intros; exact nomatch (show none = some _ from by assumption))⟩
 | k + 1 => ⟨Qz.b0_ok (k := k) (Qz.ok k)⟩
theorem Qz.calls (k : Nat) {H : Hp} {L : Items} {r_ d : List Int} {i q : Int} {vr_ : Value} {it_ : Item'} {v0_d : Value} {r : Bool × (List Int)} (he : Qz.f k r_ d i q = some r) (hr_ : Sl kU32 H 167 it_ vr_ r_) (h0_d : Src kU32 H L v0_d d) : Ct Tryz.prog 157 ⟨[vr_, v0_d, .int .i64 i, .int .u64 q]⟩ H (it_ :: L) (fun v H' L' => ∃ it', L' = it' :: L ∧ H.le H' ∧ Sl kU32 H' 167 it' vr_ r.2 ∧ v = .bool r.1) := by
 refine NJ (Q := fun v => v = .bool r.1) ?_
 have hle : H.le H := .refl _
 have hh := Qz.ok k
 unfold Qz.f at he
 refine QV (args := [_, _, _, _]) fn_157 rfl nt_157 rfl <| wR rfl <| wA (.bool false) rfl rfl <| wQ rfl <| wA (.int .i64 0) rfl rfl <| wQ rfl <| wA (.int .u64 0) rfl rfl ?_
 refine wE <| wR rfl <| wA (.int .i64 0) rfl rfl <| Qb <| Q2 <| X5 <| w_sl 0 (vr_) rfl <| w_sl 1 (v0_d) rfl <| w_sl 2 (.int .i64 i) rfl <| w_sl 3 (.int .u64 q) rfl ?_
 refine w_sl 8 (.bool false) rfl <| w_sl 9 (.int .i64 0) rfl <| w_sl 10 (.int .u64 0) rfl <| w_sl 11 (.int .i64 0) rfl <| hh.l0 hle he hr_ h0_d
noncomputable def Qw.C : Code := (Tryz.f158.body).getD .skip
def Qw.out (r : (List Int)) (H : Hp) (v : Value) : Prop := v = .tuple ⟨[]⟩
abbrev Qw.R (vr_ : Value) (H0 : Hp) (L : Items) (r : (List Int)) : Value → Hp → Items → Prop := fun v H' L' => (∃ p it', L' = p ++ it' :: L ∧ Sl kU32 H' 167 it' vr_ r) ∧ H0.le H' ∧ v = .tuple ⟨[]⟩
structure Qw.Hs where
 l0 : (List Int) → (List Int) → Int → Int → Int → Option (List Int)
noncomputable def Qw.j2 (k : Nat) (h : Qw.Hs) (r_ d : List Int) (i carry j_ s : Int) : Option (List Int) := if (0 : Int) ≤ w64 (i + j_) ∧ w64 (i + j_) < (r_.length : Int) then (h.l0 (r_.set (w64 (i + j_) : Int).toNat ((s) % 4294967296)) d i (s / 4294967296) (w64 (j_ + 1))) else none
noncomputable def Qw.b0 (k : Nat) (h : Qw.Hs) (r_ d : List Int) (i carry j_ : Int) : Option (List Int) := if j_ ≤ (d.length : Int) then (if (0 : Int) ≤ w64 (i + j_) ∧ w64 (i + j_) < (r_.length : Int) then (if j_ < (d.length : Int) then (if (0 : Int) ≤ j_ ∧ j_ < (d.length : Int) then (Qw.j2 k h r_ d i carry j_ ((((((rd r_ (w64 (i + j_))) % 18446744073709551616) + carry) % 18446744073709551616) + ((rd d j_) % 18446744073709551616)) % 18446744073709551616)) else none) else (Qw.j2 k h r_ d i carry j_ ((((rd r_ (w64 (i + j_))) % 18446744073709551616) + carry) % 18446744073709551616))) else none) else (some (r_))
noncomputable def Qw.hs : Nat → Qw.Hs
 | 0 => ⟨fun _ _ _ _ _ => none⟩
 | k + 1 => ⟨fun x0 x1 x2 x3 x4 => Qw.b0 k (Qw.hs k) x0 x1 x2 x3 x4⟩
noncomputable def Qw.f (k : Nat) (r_ d : List Int) (i : Int) : Option (List Int) := (fun h : Qw.Hs => h.l0 r_ d i 0 0) (Qw.hs k)
structure Qw.LE (h h' : Qw.Hs) : Prop where
 l0 : ∀ y0 y1 y2 y3 y4, LeO (h.l0 y0 y1 y2 y3 y4) (h'.l0 y0 y1 y2 y3 y4)
theorem Qw.j2_mono {k : Nat} {h h' : Qw.Hs} (hl : Qw.LE h h') : ∀ y0 y1 y2 y3 y4 y5, LeO (Qw.j2 k h y0 y1 y2 y3 y4 y5) (Qw.j2 (k + 1) h' y0 y1 y2 y3 y4 y5) := fun _ _ _ _ _ _ => (LeO.ite (hl.l0 _ _ _ _ _) (LeO.refl _))
theorem Qw.b0_mono {k : Nat} {h h' : Qw.Hs} (hl : Qw.LE h h') : ∀ y0 y1 y2 y3 y4, LeO (Qw.b0 k h y0 y1 y2 y3 y4) (Qw.b0 (k + 1) h' y0 y1 y2 y3 y4) := fun _ _ _ _ _ => (LeO.ite (LeO.ite (LeO.ite (LeO.ite (Qw.j2_mono (k := k) hl _ _ _ _ _ _) (LeO.refl _)) (Qw.j2_mono (k := k) hl _ _ _ _ _ _)) (LeO.refl _)) (LeO.refl _))
theorem Qw.hs_mono : ∀ k, Qw.LE (Qw.hs k) (Qw.hs (k + 1))
 | 0 => ⟨fun _ _ _ _ _ => LeO.none _⟩
 | k + 1 => ⟨Qw.b0_mono (k := k) (Qw.hs_mono k)⟩
theorem Qw.mono : ∀ k y0 y1 y2, LeO (Qw.f k y0 y1 y2) (Qw.f (k + 1) y0 y1 y2) := fun k _ _ _ => have hl := Qw.hs_mono k; by unfold Qw.f; exact (hl.l0 _ _ _ _ _)
noncomputable def Qw.Kl0 : List Item := .code (lopB (blkB (seqR (seqR Qw.C)))) :: .inLoop (lopB (blkB (seqR (seqR Qw.C)))) :: .inBlock 0 :: []
noncomputable def Qw.Kj2 : List Item := .code (seqR (seqR (blkB (seqL (seqR (lopB (blkB (seqR (seqR Qw.C))))))))) :: .inBlock 1 :: .code (seqR (seqR (lopB (blkB (seqR (seqR Qw.C)))))) :: .inLoop (lopB (blkB (seqR (seqR Qw.C)))) :: .inBlock 0 :: []
structure Qw.OK (h : Qw.Hs) : Prop where
 l0 : ∀ {H0 H : Hp} {L : Items} {r : (List Int)} {jk_ : Nat → Value} {r_ : List Int} {d : List Int} {i : Int} {carry : Int} {j_ : Int} {vr_ : Value} {v_d : Value} {i_r_ : Item'} (_ : H0.le H) (_he : h.l0 r_ d i carry j_ = some r) (_h_r_ : Sl kU32 H 167 i_r_ vr_ r_) (_h_d : Src kU32 H L v_d d), Wp Tryz.prog 158 44 Qw.Kl0 (upd (upd (upd (upd (upd jk_ 0 (vr_)) 1 (v_d)) 2 (.int .i64 i)) 6 (.int .u64 carry)) 7 (.int .i64 j_)) H (i_r_ :: L) (Qw.R vr_ H0 L r)
theorem Qw.j2_ok {k : Nat} {h : Qw.Hs} (hh : Qw.OK h) {H0 H : Hp} {L : Items} {r : (List Int)} {jk_ : Nat → Value} {r_ d : List Int} {i carry j_ s : Int} {vr_ v_d : Value} {i_r_ : Item'} (hle : H0.le H) (he : Qw.j2 k h r_ d i carry j_ s = some r) (h_r_ : Sl kU32 H 167 i_r_ vr_ r_) (h_d : Src kU32 H L v_d d) : Wp Tryz.prog 158 44 Qw.Kj2 (upd (upd (upd (upd (upd (upd jk_ 0 (vr_)) 1 (v_d)) 2 (.int .i64 i)) 6 (.int .u64 carry)) 7 (.int .i64 j_)) 8 (.int .u64 s)) H (i_r_ :: L) (Qw.R vr_ H0 L r) := by
 unfold Qw.j2 at he
 unfold Qw.Kj2
 refine wR rfl <| wM vr_ rfl rfl <| wM (.int .i64 i) rfl rfl <| wM (.int .i64 j_) rfl rfl <| w_d rfl (XQ (c := w64 (i + j_)) rfl rfl rfl) <| wM (.int .u64 s) rfl rfl <| w_d rfl (Yd (c := (s) % 4294967296) Tryz.underlying113 Tryz.underlying167 rfl rfl) <| rK he fun c5 he => w_d rfl (YM (sz := 1) Tryz.underlying22 sz167 rfl h_r_.shp rfl c5) <| w_a0 rfl (Y1 (kd := kU32) (v := .int .u32 ((s) % 4294967296)) (F := fun z_ => z_ :: L) sz167 rfl rfl rfl rfl h_r_ c5 (fun _ => .here)) ?_
 rintro _ _ _ ⟨i6, rfl, rfl, rfl, h7⟩
 refine Qb <| QL rfl <| wM (.int .u64 s) rfl rfl <| w_d rfl (Jb (c := s / 4294967296) rfl rfl (by decide) rfl) <| wA (.int .u64 (s / 4294967296)) rfl rfl <| Qb <| Xw <| QL rfl <| wM (.int .i64 j_) rfl rfl <| w_d rfl (XQ (c := w64 (j_ + 1)) rfl rfl rfl) <| wA (.int .i64 (w64 (j_ + 1))) rfl rfl <| Qb ?_
 refine XG <| w_sl 0 (vr_) rfl <| w_sl 1 (v_d) rfl <| w_sl 2 (.int .i64 i) rfl <| w_sl 6 (.int .u64 (s / 4294967296)) rfl <| w_sl 7 (.int .i64 (w64 (j_ + 1))) rfl <| hh.l0 hle he h7 h_d
theorem Qw.b0_ok {k : Nat} {h : Qw.Hs} (hh : Qw.OK h) {H0 H : Hp} {L : Items} {r : (List Int)} {jk_ : Nat → Value} {r_ d : List Int} {i carry j_ : Int} {vr_ v_d : Value} {i_r_ : Item'} (hle : H0.le H) (he : Qw.b0 k h r_ d i carry j_ = some r) (h_r_ : Sl kU32 H 167 i_r_ vr_ r_) (h_d : Src kU32 H L v_d d) : Wp Tryz.prog 158 44 Qw.Kl0 (upd (upd (upd (upd (upd jk_ 0 (vr_)) 1 (v_d)) 2 (.int .i64 i)) 6 (.int .u64 carry)) 7 (.int .i64 j_)) H (i_r_ :: L) (Qw.R vr_ H0 L r) := by
 unfold Qw.b0 at he
 unfold Qw.Kl0
 refine QX <| wR rfl <| wM (.int .i64 j_) rfl rfl <| wM v_d rfl rfl <| w_d rfl (Xo Tryz.underlying22 rfl h_d.th) <| w_d rfl (MB rfl rfl) <| Qb ?_
 rcases its he with ⟨c1, he⟩ | ⟨c1, he⟩
 ·
  refine QD rfl (dt c1) <| QF <| QX <| Q2 <| wR rfl <| wM vr_ rfl rfl <| wM (.int .i64 i) rfl rfl <| wM (.int .i64 j_) rfl rfl <| w_d rfl (XQ (c := w64 (i + j_)) rfl rfl rfl) <| rK he fun c2 he => w_d rfl (YM (sz := 1) Tryz.underlying22 sz167 rfl h_r_.shp rfl c2) ?_
  refine w_d rfl (XR ty167 rfl (h_r_.src .here) c2) <| w_d rfl (Yd (c := (rd r_ (w64 (i + j_))) % 18446744073709551616) Tryz.underlying167 Tryz.underlying113 rfl rfl) <| wM (.int .u64 carry) rfl rfl <| w_d rfl (XQ (c := (((rd r_ (w64 (i + j_))) % 18446744073709551616) + carry) % 18446744073709551616) rfl rfl rfl) <| wA (.int .u64 ((((rd r_ (w64 (i + j_))) % 18446744073709551616) + carry) % 18446744073709551616)) rfl rfl <| wE <| wR rfl <| wM (.int .i64 j_) rfl rfl <| wM v_d rfl rfl <| w_d rfl (Xo Tryz.underlying22 rfl h_d.th) ?_
  refine w_d rfl (XW rfl rfl) <| Qb ?_
  rcases its he with ⟨c3, he⟩ | ⟨c3, he⟩
  ·
   refine QD rfl (dt c3) <| QL rfl <| wM (.int .u64 ((((rd r_ (w64 (i + j_))) % 18446744073709551616) + carry) % 18446744073709551616)) rfl rfl <| wM v_d rfl rfl <| wM (.int .i64 j_) rfl rfl <| rK he fun c4 he => w_d rfl (XA (sz := 1) Tryz.underlying22 sz167 rfl h_d.th rfl c4) <| w_d rfl (XR ty167 rfl h_d.th c4) <| w_d rfl (Yd (c := (rd d j_) % 18446744073709551616) Tryz.underlying167 Tryz.underlying113 rfl rfl) <| w_d rfl (XQ (c := (((((rd r_ (w64 (i + j_))) % 18446744073709551616) + carry) % 18446744073709551616) + ((rd d j_) % 18446744073709551616)) % 18446744073709551616) rfl rfl rfl) <| wA (.int .u64 ((((((rd r_ (w64 (i + j_))) % 18446744073709551616) + carry) % 18446744073709551616) + ((rd d j_) % 18446744073709551616)) % 18446744073709551616)) rfl rfl <| Qb ?_
   refine w_sl 0 (vr_) rfl <| w_sl 1 (v_d) rfl <| w_sl 2 (.int .i64 i) rfl <| w_sl 6 (.int .u64 carry) rfl <| w_sl 7 (.int .i64 j_) rfl <| w_sl 8 (.int .u64 ((((((rd r_ (w64 (i + j_))) % 18446744073709551616) + carry) % 18446744073709551616) + ((rd d j_) % 18446744073709551616)) % 18446744073709551616)) rfl <| Qw.j2_ok (k := k) hh hle he h_r_ h_d
  ·
   refine QE rfl (df c3) <| QF <| w_sl 0 (vr_) rfl <| w_sl 1 (v_d) rfl <| w_sl 2 (.int .i64 i) rfl <| w_sl 6 (.int .u64 carry) rfl <| w_sl 7 (.int .i64 j_) rfl <| w_sl 8 (.int .u64 ((((rd r_ (w64 (i + j_))) % 18446744073709551616) + carry) % 18446744073709551616)) rfl <| Qw.j2_ok (k := k) hh hle he h_r_ h_d
 ·
  refine QE rfl (df c1) <| X3 rfl ?_
  obtain rfl := sj he
  refine N8 fn_158 rs_158 .nil <| ⟨⟨[], _, rfl, h_r_⟩, hle, rfl⟩
theorem Qw.ok : ∀ k, Qw.OK (Qw.hs k)
 | 0 => ⟨(by intros; exact nomatch (show none = some _ from by assumption))⟩
 | k + 1 => ⟨Qw.b0_ok (k := k) (Qw.ok k)⟩
theorem Qw.calls (k : Nat) {H : Hp} {L : Items} {r_ d : List Int} {i : Int} {vr_ : Value} {it_ : Item'} {v0_d : Value} {r : (List Int)} (he : Qw.f k r_ d i = some r) (hr_ : Sl kU32 H 167 it_ vr_ r_) (h0_d : Src kU32 H L v0_d d) : Ct Tryz.prog 158 ⟨[vr_, v0_d, .int .i64 i]⟩ H (it_ :: L) (fun v H' L' => ∃ it', L' = it' :: L ∧ H.le H' ∧ Sl kU32 H' 167 it' vr_ r ∧ v = .tuple ⟨[]⟩) := by
 refine NJ (Q := fun v => v = .tuple ⟨[]⟩) ?_
 have hle : H.le H := .refl _
 have hh := Qw.ok k
 unfold Qw.f at he
 refine QV (args := [_, _, _]) fn_158 rfl nt_158 rfl <| wR rfl <| wA (.int .u64 0) rfl rfl <| wQ rfl <| wA (.int .i64 0) rfl rfl <| Qb <| Q2 <| X5 <| w_sl 0 (vr_) rfl ?_
 refine w_sl 1 (v0_d) rfl <| w_sl 2 (.int .i64 i) rfl <| w_sl 6 (.int .u64 0) rfl <| w_sl 7 (.int .i64 0) rfl <| hh.l0 hle he hr_ h0_d
noncomputable def QM.C : Code := (Tryz.f142.body).getD .skip
def QM.out (r : (List Int) × (List Int)) (H : Hp) (v : Value) : Prop := ∃ v0 v1, v = .tuple ⟨[v0, v1]⟩ ∧ Ro kU32 H v0 r.1 ∧ Ro kU32 H v1 r.2
abbrev QM.R (H0 : Hp) (L : Items) (r : (List Int) × (List Int)) := fR H0 L (QM.out r)
structure QM.Hs where
 l0 : Int → (List Int) → (List Int) → (List Int) → Int → Option ((List Int) × (List Int))
noncomputable def QM.j2 (k : Nat) (h : QM.Hs) (n : Int) (d r_ q : List Int) (i g : Int) : Option ((List Int) × (List Int)) := if (0 : Int) ≤ i ∧ i < (q.length : Int) then (h.l0 n d r_ (q.set (i : Int).toNat ((g) % 4294967296)) (w64 (i - 1))) else none
noncomputable def QM.b0 (k : Nat) (h : QM.Hs) (n : Int) (d r_ q : List Int) (i : Int) : Option ((List Int) × (List Int)) := if 0 ≤ i then ((Q6.f k r_ d i).bind fun y63 => (Qz.f k r_ d i y63).bind fun y67 => if y67.1 = true then ((Qw.f k y67.2 d i).bind fun y74 => QM.j2 k h n d y74 q i ((y63 - 1) % 18446744073709551616)) else (QM.j2 k h n d y67.2 q i y63)) else ((QU.f k q).bind fun y83 => (QK.f k r_ n).bind fun y92 => some (y83, y92))
noncomputable def QM.hs : Nat → QM.Hs
 | 0 => ⟨fun _ _ _ _ _ => none⟩
 | k + 1 => ⟨fun x0 x1 x2 x3 x4 => QM.b0 k (QM.hs k) x0 x1 x2 x3 x4⟩
noncomputable def QM.f (k : Nat) (a b : List Int) : Option ((List Int) × (List Int)) := (fun h : QM.Hs => (Q4.f k a b).bind fun y1 => if y1 < 0 then (some ([], a)) else (if (b.length : Int) = 1 then (if (0 : Int) ≤ 0 ∧ 0 < (b.length : Int) then ((Q1.f k a (rd b 0)).bind fun y8 => (QU.f k [y8.2]).bind fun y20 => some (y8.1, y20)) else none) else (if (0 : Int) ≤ w64 ((b.length : Int) - 1) ∧ w64 ((b.length : Int) - 1) < (b.length : Int) then ((XX.f k (rd b (w64 ((b.length : Int) - 1)))).bind fun y27 => (Xn.f k b y27).bind fun y31 => (QU.f k y31).bind fun y43 => (Xn.f k a y27).bind fun y49 => if 0 ≤ w64 ((y49.length : Int) - (y43.length : Int)) ∧ w64 ((y49.length : Int) - (y43.length : Int)) ≤ 70368744177664 then (h.l0 y27 y43 y49 (List.replicate (w64 ((y49.length : Int) - (y43.length : Int)) : Int).toNat (0 : Int)) (w64 (((List.replicate (w64 ((y49.length : Int) - (y43.length : Int)) : Int).toNat (0 : Int)).length : Int) - 1))) else none) else none))) (QM.hs k)
structure QM.LE (h h' : QM.Hs) : Prop where
 l0 : ∀ y0 y1 y2 y3 y4, LeO (h.l0 y0 y1 y2 y3 y4) (h'.l0 y0 y1 y2 y3 y4)
theorem QM.j2_mono {k : Nat} {h h' : QM.Hs} (hl : QM.LE h h') : ∀ y0 y1 y2 y3 y4 y5, LeO (QM.j2 k h y0 y1 y2 y3 y4 y5) (QM.j2 (k + 1) h' y0 y1 y2 y3 y4 y5) := fun _ _ _ _ _ _ => (LeO.ite (hl.l0 _ _ _ _ _) (LeO.refl _))
theorem QM.b0_mono {k : Nat} {h h' : QM.Hs} (hl : QM.LE h h') : ∀ y0 y1 y2 y3 y4, LeO (QM.b0 k h y0 y1 y2 y3 y4) (QM.b0 (k + 1) h' y0 y1 y2 y3 y4) := fun _ _ _ _ _ => (LeO.ite (LeO.bind (Q6.mono k _ _ _) fun _ => LeO.bind (Qz.mono k _ _ _ _) fun _ => LeO.ite (LeO.bind (Qw.mono k _ _ _) fun _ => QM.j2_mono (k := k) hl _ _ _ _ _ _) (QM.j2_mono (k := k) hl _ _ _ _ _ _)) (LeO.bind (QU.mono k _) fun _ => LeO.bind (QK.mono k _ _) fun _ => LeO.refl _))
theorem QM.hs_mono : ∀ k, QM.LE (QM.hs k) (QM.hs (k + 1))
 | 0 => ⟨fun _ _ _ _ _ => LeO.none _⟩
 | k + 1 => ⟨QM.b0_mono (k := k) (QM.hs_mono k)⟩
theorem QM.mono : ∀ k y0 y1, LeO (QM.f k y0 y1) (QM.f (k + 1) y0 y1) := fun k _ _ => have hl := QM.hs_mono k; by unfold QM.f; exact (LeO.bind (Q4.mono k _ _) fun _ => LeO.ite (LeO.refl _) (LeO.ite (LeO.ite (LeO.bind (Q1.mono k _ _) fun _ => LeO.bind (QU.mono k _) fun _ => LeO.refl _) (LeO.refl _)) (LeO.ite (LeO.bind (XX.mono k _) fun _ => LeO.bind (Xn.mono k _ _) fun _ => LeO.bind (QU.mono k _) fun _ => LeO.bind (Xn.mono k _ _) fun _ => LeO.ite (hl.l0 _ _ _ _ _) (LeO.refl _)) (LeO.refl _))))
noncomputable def QM.Kl0 : List Item := .code (lopB (blkB (seqR (seqL (seqR (seqR (seqR (seqR (seqR (seqR (seqR QM.C))))))))))) :: .inLoop (lopB (blkB (seqR (seqL (seqR (seqR (seqR (seqR (seqR (seqR (seqR QM.C))))))))))) :: .inBlock 0 :: .code (seqR (seqR (seqR (seqR (seqR (seqR (seqR (seqR QM.C)))))))) :: []
noncomputable def QM.Kj2 : List Item := .code (seqR (seqR (blkB (seqL (seqR (lopB (blkB (seqR (seqL (seqR (seqR (seqR (seqR (seqR (seqR (seqR QM.C)))))))))))))))) :: .inBlock 1 :: .code (seqR (seqR (lopB (blkB (seqR (seqL (seqR (seqR (seqR (seqR (seqR (seqR (seqR QM.C))))))))))))) :: .inLoop (lopB (blkB (seqR (seqL (seqR (seqR (seqR (seqR (seqR (seqR (seqR QM.C))))))))))) :: .inBlock 0 :: .code (seqR (seqR (seqR (seqR (seqR (seqR (seqR (seqR QM.C)))))))) :: []
structure QM.OK (h : QM.Hs) : Prop where
 l0 : ∀ {H0 H : Hp} {L : Items} {r : (List Int) × (List Int)} {jk_ : Nat → Value} {n : Int} {d : List Int} {r_ : List Int} {q : List Int} {i : Int} {v_d : Value} {v_r_ : Value} {v_q : Value} {i_r_ : Item'} {i_q : Item'} (_ : H0.le H) (_he : h.l0 n d r_ q i = some r) (_h_d : Ro kU32 H v_d d) (_h_r_ : Sl kU32 H 167 i_r_ v_r_ r_) (_h_q : Sl kU32 H 167 i_q v_q q), Wp Tryz.prog 142 86 QM.Kl0 (upd (upd (upd (upd (upd (upd (upd jk_ 4 (.slice none 0 0)) 5 (.slice none 0 0)) 8 (.int .i64 n)) 9 (v_d)) 10 (v_r_)) 11 (v_q)) 12 (.int .i64 i)) H (i_q :: i_r_ :: L) (QM.R H0 L r)
theorem QM.j2_ok {k : Nat} {h : QM.Hs} (hh : QM.OK h) {H0 H : Hp} {L : Items} {r : (List Int) × (List Int)} {jk_ : Nat → Value} {n : Int} {d r_ q : List Int} {i g : Int} {v_d v_r_ v_q : Value} {i_r_ i_q : Item'} (hle : H0.le H) (he : QM.j2 k h n d r_ q i g = some r) (h_d : Ro kU32 H v_d d) (h_r_ : Sl kU32 H 167 i_r_ v_r_ r_) (h_q : Sl kU32 H 167 i_q v_q q) : Wp Tryz.prog 142 86 QM.Kj2 (upd (upd (upd (upd (upd (upd (upd (upd jk_ 4 (.slice none 0 0)) 5 (.slice none 0 0)) 8 (.int .i64 n)) 9 (v_d)) 10 (v_r_)) 11 (v_q)) 12 (.int .i64 i)) 13 (.int .u64 g)) H (i_q :: i_r_ :: L) (QM.R H0 L r) := by
 unfold QM.j2 at he
 unfold QM.Kj2
 refine QL rfl <| wM v_q rfl rfl <| wM (.int .i64 i) rfl rfl <| wM (.int .u64 g) rfl rfl <| w_d rfl (Yd (c := (g) % 4294967296) Tryz.underlying113 Tryz.underlying167 rfl rfl) <| rK he fun c98 he => w_d rfl (YM (sz := 1) Tryz.underlying22 sz167 rfl h_q.shp rfl c98) <| w_a0 rfl (Y1 (kd := kU32) (v := .int .u32 ((g) % 4294967296)) (F := fun z_ => z_ :: i_r_ :: L) sz167 rfl rfl rfl rfl h_q c98 (fun _ => .here)) ?_
 rintro _ _ _ ⟨i99, rfl, rfl, rfl, h100⟩
 refine Qb <| Xw <| QL rfl <| wM (.int .i64 i) rfl rfl <| w_d rfl (YE (c := w64 (i - 1)) rfl rfl rfl) <| wA (.int .i64 (w64 (i - 1))) rfl rfl <| Qb <| XG <| w_sl 4 (.slice none 0 0) rfl <| w_sl 5 (.slice none 0 0) rfl <| w_sl 8 (.int .i64 n) rfl <| w_sl 9 (v_d) rfl ?_
 refine w_sl 10 (v_r_) rfl <| w_sl 11 (v_q) rfl <| w_sl 12 (.int .i64 (w64 (i - 1))) rfl <| hh.l0 hle he h_d h_r_ h100
theorem QM.b0_ok {k : Nat} {h : QM.Hs} (hh : QM.OK h) {H0 H : Hp} {L : Items} {r : (List Int) × (List Int)} {jk_ : Nat → Value} {n : Int} {d r_ q : List Int} {i : Int} {v_d v_r_ v_q : Value} {i_r_ i_q : Item'} (hle : H0.le H) (he : QM.b0 k h n d r_ q i = some r) (h_d : Ro kU32 H v_d d) (h_r_ : Sl kU32 H 167 i_r_ v_r_ r_) (h_q : Sl kU32 H 167 i_q v_q q) : Wp Tryz.prog 142 86 QM.Kl0 (upd (upd (upd (upd (upd (upd (upd jk_ 4 (.slice none 0 0)) 5 (.slice none 0 0)) 8 (.int .i64 n)) 9 (v_d)) 10 (v_r_)) 11 (v_q)) 12 (.int .i64 i)) H (i_q :: i_r_ :: L) (QM.R H0 L r) := by
 unfold QM.b0 at he
 unfold QM.Kl0
 refine QX <| wR rfl <| wM (.int .i64 i) rfl rfl <| w_d rfl (ZO rfl rfl) <| Qb ?_
 rcases its he with ⟨c62, he⟩ | ⟨c62, he⟩
 ·
  refine QD rfl (dt c62) <| QF <| QX <| Q2 <| wR rfl <| wM v_r_ rfl rfl <| wM v_d rfl rfl <| wM (.int .i64 i) rfl rfl <| bK he fun y63 hy64 he => w_d rfl (Xx (Qm co156 (vs := [v_r_, v_d, .int .i64 i]) rfl (Q6.calls k hy64 (h_r_.src .h1) h_d.src))) <| wA (.int .u64 y63) rfl rfl ?_
  refine wE <| wR rfl <| wM v_r_ rfl rfl <| wM v_d rfl rfl <| wM (.int .i64 i) rfl rfl <| wM (.int .u64 y63) rfl rfl <| bK he fun y67 hy68 he => w_a rfl (Qm co157 (vs := [v_r_, v_d, .int .i64 i, .int .u64 y63]) rfl (Nd (F := fun z_ => i_q :: z_ :: L) (Qz.calls k hy68 h_r_ h_d.src) .h1 (fun _ => .h1))) ?_
  rintro _ H69 _ ⟨i71, rfl, e70, h72, rfl⟩
  refine Qb ?_
  rcases its he with ⟨c73, he⟩ | ⟨c73, he⟩
  ·
   refine QD rfl c73 <| wR rfl <| wM (.int .u64 y63) rfl rfl <| w_d rfl (YE (c := (y63 - 1) % 18446744073709551616) rfl rfl rfl) <| wA (.int .u64 ((y63 - 1) % 18446744073709551616)) rfl rfl <| Qb <| QL rfl <| wM v_r_ rfl rfl <| wM v_d rfl rfl <| wM (.int .i64 i) rfl rfl <| bK he fun y74 hy75 he => ?_
   refine w_a rfl (Qm co158 (vs := [v_r_, v_d, .int .i64 i]) rfl (Nd (F := fun z_ => i_q :: z_ :: L) (Qw.calls k hy75 h72 ((h_d.mono e70).src)) .h1 (fun _ => .h1))) ?_
   rintro _ H76 _ ⟨i78, rfl, e77, h79, rfl⟩
   refine Qb <| w_sl 4 (.slice none 0 0) rfl <| w_sl 5 (.slice none 0 0) rfl <| w_sl 8 (.int .i64 n) rfl <| w_sl 9 (v_d) rfl <| w_sl 10 (v_r_) rfl <| w_sl 11 (v_q) rfl <| w_sl 12 (.int .i64 i) rfl <| w_sl 13 (.int .u64 ((y63 - 1) % 18446744073709551616)) rfl <| QM.j2_ok (k := k) hh (hle.trans (e70.trans e77)) he (h_d.mono (e70.trans e77)) h79 (h_q.mono (e70.trans e77))
  ·
   refine QE rfl (Bool.eq_false_iff.2 c73) <| QF <| w_sl 4 (.slice none 0 0) rfl <| w_sl 5 (.slice none 0 0) rfl <| w_sl 8 (.int .i64 n) rfl <| w_sl 9 (v_d) rfl <| w_sl 10 (v_r_) rfl <| w_sl 11 (v_q) rfl <| w_sl 12 (.int .i64 i) rfl <| w_sl 13 (.int .u64 y63) rfl <| QM.j2_ok (k := k) hh (hle.trans e70) he (h_d.mono e70) h72 (h_q.mono e70)
 ·
  refine QE rfl (df c62) <| X3 rfl <| wR rfl <| wM v_q rfl rfl <| Yx h_q .here ?_
  intro H80 e81 h82
  refine bK he fun y83 hy84 he => w_a rfl (Qm co113 (vs := [v_q]) rfl (QU.calls k hy84 h82)) ?_
  rintro v87 H85 _ ⟨rfl, e86, h88⟩
  refine wM v_r_ rfl rfl <| wM (.int .i64 n) rfl rfl <| Yx (h_r_.mono (e81.trans e86)) .h1 ?_
  intro H89 e90 h91
  refine bK he fun y92 hy93 he => w_a rfl (Qm co118 (vs := [v_r_, .int .i64 n]) rfl (QK.calls k hy93 h91)) ?_
  rintro v96 H94 _ ⟨rfl, e95, h97⟩
  refine wA v87 rfl rfl <| wA v96 rfl rfl <| Qb ?_
  obtain rfl := sj he
  refine Ql fn_142 rs_142 (.tmp (v := v87) rfl (.tmp (v := v96) rfl .nil)) <| ⟨⟨[_, _], rfl⟩, hle.trans (((e81.trans e86).trans e90).trans e95), ⟨v87, v96, rfl, (h88.mono (e90.trans e95)), h97⟩⟩
theorem QM.ok : ∀ k, QM.OK (QM.hs k)
 | 0 => ⟨(by intros; exact nomatch (show none = some _ from by assumption))⟩
 | k + 1 => ⟨QM.b0_ok (k := k) (QM.ok k)⟩
theorem QM.calls (k : Nat) {H : Hp} {L : Items} {a b : List Int} {v0_a v1_b : Value} {r : (List Int) × (List Int)} (he : QM.f k a b = some r) (h0_a : Ro kU32 H v0_a a) (h1_b : Src kU32 H L v1_b b) : Ct Tryz.prog 142 ⟨[v0_a, v1_b]⟩ H L (cR H L (QM.out r)) := by
 refine XN (O := QM.out r) ?_
 have hle : H.le H := .refl _
 have hh := QM.ok k
 unfold QM.f at he
 refine QV (args := [_, _]) fn_142 rfl nt_142 rfl <| wR rfl <| wA (.slice none 0 0) rfl rfl <| wA (.slice none 0 0) rfl rfl <| wE <| wR rfl <| wM v0_a rfl rfl <| wM v1_b rfl rfl <| bK he fun y1 hy2 he => ?_
 refine w_d rfl (Xx (Qm co137 (vs := [v0_a, v1_b]) rfl (Q4.calls k hy2 h0_a.src h1_b))) <| w_d rfl (XW rfl rfl) <| Qb ?_
 rcases its he with ⟨c5, he⟩ | ⟨c5, he⟩
 ·
  refine QD rfl (dt c5) <| wR rfl <| wM v0_a rfl rfl <| wA (.slice none 0 0) rfl rfl <| wA v0_a rfl rfl <| Qb ?_
  obtain rfl := sj he
  refine Ql fn_142 rs_142 (.tmp (v := .slice none 0 0) rfl (.tmp (v := v0_a) rfl .nil)) <| ⟨⟨[], rfl⟩, hle, ⟨.slice none 0 0, v0_a, rfl, (Xj _ _), h0_a⟩⟩
 ·
  refine QE rfl (df c5) <| QF <| QX <| wR rfl <| wM v1_b rfl rfl <| w_d rfl (Xo Tryz.underlying22 rfl h1_b) <| w_d rfl (YY rfl rfl) <| Qb ?_
  rcases its he with ⟨c6, he⟩ | ⟨c6, he⟩
  ·
   refine QD rfl (dt c6) <| wR rfl <| wM v0_a rfl rfl <| wM v1_b rfl rfl <| rK he fun c7 he => w_d rfl (XA (sz := 1) Tryz.underlying22 sz167 rfl h1_b rfl c7) <| w_d rfl (XR ty167 rfl h1_b c7) <| bK he fun y8 hy9 he => w_a rfl (Qm co130 (vs := [v0_a, .int .u32 (rd b 0)]) rfl (Q1.calls k hy9 h0_a.src)) ?_
   rintro _ H10 _ ⟨rfl, e11, v12, rfl, h13⟩
   refine wM (.tuple ⟨[v12, .int .u32 y8.2]⟩) rfl rfl <| w_d rfl (Q5 rfl rfl) <| w_d rfl (Q5 rfl rfl) <| wA v12 rfl rfl <| wA (.int .u32 y8.2) rfl rfl <| wQ rfl <| wM v12 rfl rfl <| wM (.int .u32 y8.2) rfl rfl <| w_a rfl (o_buildSlice' (kd := kU32) (css := [[.int .u32 y8.2]]) (xs := [y8.2]) (parts := [(0, .int .u32 y8.2)]) Tryz.underlying22 ti167 rfl ⟨_, _, rfl, rfl, rfl⟩ ⟨rfl, trivial⟩ rfl (by decide)) ?_
   rintro v14 _ _ ⟨i15, rfl, rfl, h16⟩
   refine Yx h16 .here ?_
   intro H17 e18 h19
   refine bK he fun y20 hy21 he => w_a rfl (Qm co113 (vs := [v14]) rfl (QU.calls k hy21 h19)) ?_
   rintro v24 H22 _ ⟨rfl, e23, h25⟩
   refine wA v12 rfl rfl <| wA v24 rfl rfl <| Qb ?_
   obtain rfl := sj he
   refine Ql fn_142 rs_142 (.tmp (v := v12) rfl (.tmp (v := v24) rfl .nil)) <| ⟨⟨[_], rfl⟩, hle.trans ((e11.trans e18).trans e23), ⟨v12, v24, rfl, (h13.mono (e18.trans e23)), h25⟩⟩
  ·
   refine QE rfl (df c6) <| QF <| wR rfl <| wM v1_b rfl rfl <| wM v1_b rfl rfl <| w_d rfl (Xo Tryz.underlying22 rfl h1_b) <| w_d rfl (YE (c := w64 ((b.length : Int) - 1)) rfl rfl rfl) <| rK he fun c26 he => w_d rfl (XA (sz := 1) Tryz.underlying22 sz167 rfl h1_b rfl c26) <| w_d rfl (XR ty167 rfl h1_b c26) <| bK he fun y27 hy28 he => ?_
   refine w_d rfl (Xx (Qm co155 (vs := [.int .u32 (rd b (w64 ((b.length : Int) - 1)))]) rfl (XX.calls k hy28))) <| wA (.int .i64 y27) rfl rfl <| wQ rfl <| wM v1_b rfl rfl <| wM (.int .i64 y27) rfl rfl <| bK he fun y31 hy32 he => w_a rfl (Qm co114 (vs := [v1_b, .int .i64 y27]) rfl (Xn.calls k hy32 h1_b)) ?_
   rintro v37 H33 _ ⟨i38, rfl, e34, h39⟩
   refine Yx h39 .here ?_
   intro H40 e41 h42
   refine bK he fun y43 hy44 he => w_a rfl (Qm co113 (vs := [v37]) rfl (QU.calls k hy44 h42)) ?_
   rintro v47 H45 _ ⟨rfl, e46, h48⟩
   refine wA v47 rfl rfl <| wQ rfl <| wM v0_a rfl rfl <| wM (.int .i64 y27) rfl rfl <| bK he fun y49 hy50 he => w_a rfl (Qm co114 (vs := [v0_a, .int .i64 y27]) rfl (Xn.calls k hy50 ((h0_a.mono ((e34.trans e41).trans e46)).src))) ?_
   rintro v55 H51 _ ⟨i56, rfl, e52, h57⟩
   refine wA v55 rfl rfl <| wQ rfl <| wM v55 rfl rfl <| w_d rfl (Gd Tryz.underlying22 rfl h57.shp) <| wM v47 rfl rfl <| w_d rfl (Xo Tryz.underlying22 rfl (h48.mono e52).src) <| w_d rfl (YE (c := w64 ((y49.length : Int) - (y43.length : Int))) rfl rfl rfl) <| rK he fun c58 he => w_a rfl (o_make' (kd := kU32) (z0 := 0) Tryz.underlying22 ti167 (zp167 _) rfl rfl (by omega) (by omega) (by omega)) ?_
   rintro v59 _ _ ⟨i60, rfl, rfl, h61⟩
   refine wA v59 rfl rfl <| wE <| wR rfl <| wM v59 rfl rfl <| w_d rfl (Gd Tryz.underlying22 rfl h61.shp) <| w_d rfl (YE (c := w64 (((List.replicate (w64 ((y49.length : Int) - (y43.length : Int)) : Int).toNat (0 : Int)).length : Int) - 1)) rfl rfl rfl) <| wA (.int .i64 (w64 (((List.replicate (w64 ((y49.length : Int) - (y43.length : Int)) : Int).toNat (0 : Int)).length : Int) - 1))) rfl rfl <| Qb <| Q2 <| X5 ?_
   refine Yu .h2 <| w_sl 4 (.slice none 0 0) rfl <| w_sl 5 (.slice none 0 0) rfl <| w_sl 8 (.int .i64 y27) rfl <| w_sl 9 (v47) rfl <| w_sl 10 (v55) rfl <| w_sl 11 (v59) rfl <| w_sl 12 (.int .i64 (w64 (((List.replicate (w64 ((y49.length : Int) - (y43.length : Int)) : Int).toNat (0 : Int)).length : Int) - 1))) rfl <| hh.l0 (hle.trans (((e34.trans e41).trans e46).trans e52)) he (h48.mono e52) h57 h61
noncomputable def Xm.C : Code := (Tryz.f124.body).getD .skip
def Xm.out (r : Qv × Qv × (Option Int)) (H : Hp) (v : Value) : Prop := ∃ v0 v1, v = .tuple ⟨[(Qd r.1 v0), (Qd r.2.1 v1), errV 104 r.2.2]⟩ ∧ Ro kU32 H v0 r.1.f_w ∧ Ro kU32 H v1 r.2.1.f_w
abbrev Xm.R (H0 : Hp) (L : Items) (r : Qv × Qv × (Option Int)) := fR H0 L (Xm.out r)
noncomputable def Xm.j1 (k : Nat) (b_0 : Bool) (b_1 r_ : List Int) (x_0 : Bool) (x_1 : List Int) (one_0 : Bool) (one_1 : List Int) : Option (Qv × Qv × (Option Int)) := (Xh.f k ⟨x_0, x_1⟩ ⟨one_0, one_1⟩).bind fun y50 => if y50.2.isSome = true then (some (⟨false, []⟩, ⟨false, []⟩, y50.2)) else ((QI.f k b_1 r_).bind fun y57 => some (y50.1, ⟨false, y57⟩, none))
noncomputable def Xm.f (k : Nat) (a b : Qv) : Option (Qv × Qv × (Option Int)) := if (b.f_w.length : Int) = 0 then (some (⟨false, []⟩, ⟨false, []⟩, some 11)) else ((QM.f k a.f_w b.f_w).bind fun y6 => (XI.f k (!(a.f_neg == b.f_neg)) y6.1).bind fun y14 => if y14.2.isSome = true then (some (⟨false, []⟩, ⟨false, []⟩, y14.2)) else (if ((!a.f_neg) || (decide ((y6.2.length : Int) = 0))) = true then ((Xb.f k y6.2).bind fun y26 => some (y14.1, ⟨false, y26⟩, none)) else ((XK.f k 1).bind fun y36 => if (!b.f_neg) = true then ((Xy.f k y36).bind fun y44 => Xm.j1 k b.f_neg b.f_w y6.2 y14.1.f_neg y14.1.f_w y44.f_neg y44.f_w) else (Xm.j1 k b.f_neg b.f_w y6.2 y14.1.f_neg y14.1.f_w y36.f_neg y36.f_w))))
theorem Xm.j1_mono {k : Nat} : ∀ y0 y1 y2 y3 y4 y5 y6, LeO (Xm.j1 k y0 y1 y2 y3 y4 y5 y6) (Xm.j1 (k + 1) y0 y1 y2 y3 y4 y5 y6) := fun _ _ _ _ _ _ _ => (LeO.bind (Xh.mono k _ _) fun _ => LeO.ite (LeO.refl _) (LeO.bind (QI.mono k _ _) fun _ => LeO.refl _))
theorem Xm.mono : ∀ k y0 y1, LeO (Xm.f k y0 y1) (Xm.f (k + 1) y0 y1) := fun k _ _ => by unfold Xm.f; exact (LeO.ite (LeO.refl _) (LeO.bind (QM.mono k _ _) fun _ => LeO.bind (XI.mono k _ _) fun _ => LeO.ite (LeO.refl _) (LeO.ite (LeO.bind (Xb.mono k _) fun _ => LeO.refl _) (LeO.bind (XK.mono k _) fun _ => LeO.ite (LeO.bind (Xy.mono k _) fun _ => Xm.j1_mono (k := k)  _ _ _ _ _ _ _) (Xm.j1_mono (k := k)  _ _ _ _ _ _ _)))))
noncomputable def Xm.Kj1 : List Item := .code (seqR (seqR (seqR (seqR (seqR (seqR (seqR (seqR Xm.C)))))))) :: []
theorem Xm.j1_ok {k : Nat} {H0 H : Hp} {L : Items} {r : Qv × Qv × (Option Int)} {jk_ : Nat → Value} {b_0 : Bool} {b_1 r_ : List Int} {x_0 : Bool} {x_1 : List Int} {one_0 : Bool} {one_1 : List Int} {v_b_1 v_r_ v_x_1 v_one_1 : Value} {b_b b_t4 b_t5 b_x b_one_ : Nat} (hle : H0.le H) (he : Xm.j1 k b_0 b_1 r_ x_0 x_1 one_0 one_1 = some r) (h_b_1 : Ro kU32 H v_b_1 b_1) (h_r_ : Ro kU32 H v_r_ r_) (h_x_1 : Ro kU32 H v_x_1 x_1) (h_one_1 : Ro kU32 H v_one_1 one_1) : Wp Tryz.prog 124 77 Xm.Kj1 (upd (upd (upd (upd (upd (upd (upd jk_ 3 (pt b_b)) 4 (pt b_t4)) 5 (pt b_t5)) 6 (errV 104 none)) 8 (v_r_)) 9 (pt b_x)) 11 (pt b_one_)) H (bx b_one_ [.bool one_0, v_one_1] 24 :: bx b_x [.bool x_0, v_x_1] 24 :: bx b_t5 [.bool false, .slice none 0 0] 24 :: bx b_t4 [.bool false, .slice none 0 0] 24 :: bx b_b [.bool b_0, v_b_1] 24 :: L) (Xm.R H0 L r) := by
 unfold Xm.j1 at he
 unfold Xm.Kj1
 refine wR rfl <| wL (.agg ⟨[.bool x_0, v_x_1]⟩) ty24 rfl rfl .h1 rfl rfl <| wL (.agg ⟨[.bool one_0, v_one_1]⟩) ty24 rfl rfl .here rfl rfl <| bK he fun y50 hy51 he => w_a rfl (Qm co127 (vs := [.agg ⟨[.bool x_0, v_x_1]⟩, .agg ⟨[.bool one_0, v_one_1]⟩]) rfl (Xh.calls k (a := ⟨x_0, x_1⟩) (b := ⟨one_0, one_1⟩) hy51 h_x_1 h_one_1)) ?_
 rintro _ H52 _ ⟨rfl, e53, v54, rfl, h55⟩
 refine wM (.tuple ⟨[(Qd y50.1 v54), errV 104 y50.2]⟩) rfl rfl <| w_d rfl (Q5 rfl rfl) <| w_d rfl (Q5 rfl rfl) <| wS (Qd y50.1 v54) sz24 rfl rfl rfl rfl rfl (XF h55) .h1 u2 <| wA (errV 104 y50.2) rfl rfl <| wE <| wR rfl <| wM (errV 104 y50.2) rfl rfl <| w_d rfl (Yj (e := y50.2) Tryz.underlying30 rfl) <| Qb ?_
 rcases its he with ⟨c56, he⟩ | ⟨c56, he⟩
 ·
  refine QD rfl c56 <| wR rfl <| w_d rfl (XE (cs' := [.bool false, .slice none 0 0]) Tryz.underlying24 zr24 rfl (by kernel_rfl) (parts := []) rfl .nil) <| w_d rfl (XE (cs' := [.bool false, .slice none 0 0]) Tryz.underlying24 zr24 rfl (by kernel_rfl) (parts := []) rfl .nil) <| wM (errV 104 y50.2) rfl rfl <| wS (.agg ⟨[.bool false, .slice none 0 0]⟩) sz24 rfl rfl rfl rfl rfl (oc rfl (oc rfl oz)) .h3 u2 <| wS (.agg ⟨[.bool false, .slice none 0 0]⟩) sz24 rfl rfl rfl rfl rfl (oc rfl (oc rfl oz)) .h2 u2 <| wA (errV 104 y50.2) rfl rfl <| Qb ?_
  obtain rfl := sj he
  refine Ql fn_124 rs_124 (.box (v := .agg ⟨[.bool false, .slice none 0 0]⟩) rfl ty24 rfl rfl .h3 rfl (.box (v := .agg ⟨[.bool false, .slice none 0 0]⟩) rfl ty24 rfl rfl .h2 rfl (.tmp (v := errV 104 y50.2) rfl .nil))) <| ⟨⟨[_, _, _, _, _], rfl⟩, hle.trans e53, ⟨.slice none 0 0, .slice none 0 0, rfl, (Xj _ _), (Xj _ _)⟩⟩
 ·
  refine QE rfl (Bool.eq_false_iff.2 c56) <| QF <| QX <| bK he fun y57 hy58 he => XC (p := 7) (tl := [7, 8]) [[], [], [(1, some 72)], [], [(2, some 73), (3, some 74)], [(4, some 75)], [(0, some 71)]] [some 71, some 72, some 73, some 74, some 75, some 76, none] (fctF (.is (Qd y50.1 v54) :: .is (po b_b 1) :: .is (v_b_1) :: .is (v_r_) :: .ro kU32 (y57) :: .of (fun H v => ∃ v63, v = .agg ⟨[.bool false, v63]⟩ ∧ Ro kU32 H v63 y57) (by rintro _ _ _ hle ⟨v63, rfl, h64⟩; exact ⟨v63, rfl, h64.mono hle⟩) :: .itm (fun H itq_ => itq_ = bx b_t4 (QO y50.1 v54) 24) (by rintro _ _ _ hle rfl; exact rfl) :: [])) (fun m_ => bx b_one_ [.bool one_0, v_one_1] 24 :: bx b_x (QO y50.1 v54) 24 :: bx b_t5 [.bool false, .slice none 0 0] 24 :: m_ 6 :: bx b_b [.bool b_0, v_b_1] 24 :: L) (fun i_ => if i_ = 6 then bx b_t4 [.bool false, .slice none 0 0] 24 else none) mixed (by kernel_rfl) (by kernel_rfl) rfl (Xq (by kernel_rfl)) ⟨(fun H' m_ hH hm_ hu_ => dn <| s_d (m_ 0) rfl (QN (v := (Qd y50.1 v54)) ty24 rfl .h1 rfl rfl rfl rfl) (by exact rfl) rfl), (fun H' m_ hH hm_ hu_ => dn <| s_d (m_ 1) rfl (Xi (o' := 1) Tryz.underlying24 rfl sz22 rfl rfl rfl) (by exact rfl) rfl), (by rintro H' m_ hH hm_ hu_ _ rfl; exact dn <| s_d (m_ 2) rfl (QN (v := v_b_1) ty22 rfl .h4 rfl rfl rfl rfl) (by exact rfl) rfl), (fun H' m_ hH hm_ hu_ => dn <| s_d (m_ 3) rfl (QT (v := v_r_) rfl) (by exact rfl) rfl), (by rintro H' m_ hH hm_ hu_ _ rfl _ rfl; exact dn <| s_k (m_ 4) rfl (Qm co143 (vs := [v_b_1, v_r_]) rfl (QI.calls k hy58 ((h_b_1.mono (e53.trans hH)).src) ((h_r_.mono (e53.trans hH)).src))) rfl (by rintro v_ H_ _ ⟨rfl, e_, h_⟩; exact ⟨rfl, e_, h_⟩)), (by rintro H' m_ hH hm_ hu_ v61 (h62 : Ro kU32 H' v61 y57); exact dn <| s_d (m_ 5) rfl (XE (cs' := [.bool false, v61]) Tryz.underlying24 zr24 rfl (by kernel_rfl) (parts := [(0, .bool false), (1, v61)]) rfl (.cons (YH rfl sz4 rfl) rfl rfl u1 (.cons (YH rfl sz22 rfl) h62.cells rfl (.there u1) .nil))) (by exact ⟨v61, rfl, h62⟩) rfl), (by rintro H' m_ hH hm_ hu_ _ rfl; exact dn <| ZA (bx b_t4 (QO y50.1 v54) 24) hm_ rfl (YO (v := (Qd y50.1 v54)) sz24 rfl rfl rfl rfl (oc rfl (oc (h55.one) oz)) .h3 u2) rfl (by exact ⟨rfl, rfl⟩)), trivial⟩ ?_
  intro H65 e66
  rintro _ _ rfl _ _ rfl _ _ rfl _ _ rfl v61 _ (h62 : Ro kU32 H65 v61 y57) _ _ ⟨v63, rfl, h64⟩ _ _ ⟨rfl, rfl⟩
  refine w_it (L' := bx b_one_ [.bool one_0, v_one_1] 24 :: bx b_x (QO y50.1 v54) 24 :: bx b_t5 [.bool false, .slice none 0 0] 24 :: bx b_t4 (QO y50.1 v54) 24 :: bx b_b [.bool b_0, v_b_1] 24 :: L) rfl <| wS (.agg ⟨[.bool false, v63]⟩) sz24 rfl rfl rfl rfl rfl (oc rfl (oc (h64.one) oz)) .h2 u2 <| wA (errV 104 none) rfl rfl <| Qb ?_
  obtain rfl := sj he
  refine Ql fn_124 rs_124 (.box (v := (Qd y50.1 v54)) rfl ty24 rfl rfl .h3 rfl (.box (v := .agg ⟨[.bool false, v63]⟩) rfl ty24 rfl rfl .h2 rfl (.tmp (v := errV 104 none) rfl .nil))) <| ⟨⟨[_, _, _, _, _], rfl⟩, hle.trans (e53.trans e66), ⟨v54, v63, rfl, (h55.mono e66), h64⟩⟩
theorem Xm.calls (k : Nat) {H : Hp} {L : Items} {a b : Qv} {v0_a v1_b : Value} {r : Qv × Qv × (Option Int)} (he : Xm.f k a b = some r) (h0_a : Ro kU32 H v0_a a.f_w) (h1_b : Ro kU32 H v1_b b.f_w) : Ct Tryz.prog 124 ⟨[(Qd a v0_a), (Qd b v1_b)]⟩ H L (cR H L (Xm.out r)) := by
 refine XN (O := Xm.out r) ?_
 have hle : H.le H := .refl _
 unfold Xm.f at he
 refine QV (args := [_, _]) fn_124 rfl nt_124 rfl <| wR rfl <| wB (Qd a v0_a) rfl rfl rfl <| fun b1 => wB (Qd b v1_b) rfl rfl rfl <| fun b2 => wN zr24 rfl rfl fun b3 => wN zr24 rfl rfl fun b4 => wA (errV 104 none) rfl rfl <| wE <| wR rfl ?_
 refine w_d rfl (Xi (o' := 1) Tryz.underlying24 rfl sz22 rfl rfl rfl) <| wL v1_b ty22 rfl rfl .h2 rfl rfl <| w_d rfl (Xo Tryz.underlying22 rfl h1_b.src) <| w_d rfl (YY rfl rfl) <| Qb ?_
 rcases its he with ⟨c5, he⟩ | ⟨c5, he⟩
 ·
  refine QD rfl (dt c5) <| wR rfl <| w_d rfl (XE (cs' := [.bool false, .slice none 0 0]) Tryz.underlying24 zr24 rfl (by kernel_rfl) (parts := []) rfl .nil) <| w_d rfl (XE (cs' := [.bool false, .slice none 0 0]) Tryz.underlying24 zr24 rfl (by kernel_rfl) (parts := []) rfl .nil) <| w_d rfl (Zf (v := .int .i64 11) Tryz.underlying104 rfl rfl) <| wS (.agg ⟨[.bool false, .slice none 0 0]⟩) sz24 rfl rfl rfl rfl rfl (oc rfl (oc rfl oz)) .h1 u2 <| wS (.agg ⟨[.bool false, .slice none 0 0]⟩) sz24 rfl rfl rfl rfl rfl (oc rfl (oc rfl oz)) .here u2 <| wA (errV 104 (some 11)) rfl rfl <| Qb ?_
  obtain rfl := sj he
  refine Ql fn_124 rs_124 (.box (v := .agg ⟨[.bool false, .slice none 0 0]⟩) rfl ty24 rfl rfl .h1 rfl (.box (v := .agg ⟨[.bool false, .slice none 0 0]⟩) rfl ty24 rfl rfl .here rfl (.tmp (v := errV 104 (some 11)) rfl .nil))) <| ⟨⟨[_, _, _, _], rfl⟩, hle, ⟨.slice none 0 0, .slice none 0 0, rfl, (Xj _ _), (Xj _ _)⟩⟩
 ·
  refine QE rfl (df c5) <| QF <| wR rfl <| w_d rfl (Xi (o' := 1) Tryz.underlying24 rfl sz22 rfl rfl rfl) <| wL v0_a ty22 rfl rfl .h3 rfl rfl <| w_d rfl (Xi (o' := 1) Tryz.underlying24 rfl sz22 rfl rfl rfl) <| wL v1_b ty22 rfl rfl .h2 rfl rfl <| bK he fun y6 hy7 he => w_a rfl (Qm co142 (vs := [v0_a, v1_b]) rfl (QM.calls k hy7 h0_a h1_b.src)) ?_
  rintro _ H8 _ ⟨rfl, e9, v10, v12, rfl, h11, h13⟩
  refine wM (.tuple ⟨[v10, v12]⟩) rfl rfl <| w_d rfl (Q5 rfl rfl) <| w_d rfl (Q5 rfl rfl) <| wA v10 rfl rfl <| wA v12 rfl rfl <| wQ rfl <| w_d rfl (Xi (o' := 0) Tryz.underlying24 rfl sz4 rfl rfl rfl) <| wL (.bool a.f_neg) ty4 rfl rfl .h3 rfl rfl <| w_d rfl (Xi (o' := 0) Tryz.underlying24 rfl sz4 rfl rfl rfl) <| wL (.bool b.f_neg) ty4 rfl rfl .h2 rfl rfl ?_
  refine w_d rfl (G9 (a := a.f_neg) (b := b.f_neg) Tryz.underlying4 rfl rfl) <| wM v10 rfl rfl <| bK he fun y14 hy15 he => w_a rfl (Qm co115 (vs := [.bool (!(a.f_neg == b.f_neg)), v10]) rfl (XI.calls k hy15 h11)) ?_
  rintro _ H16 _ ⟨rfl, e17, v18, rfl, h19⟩
  refine wM (.tuple ⟨[(Qd y14.1 v18), errV 104 y14.2]⟩) rfl rfl <| w_d rfl (Q5 rfl rfl) <| w_d rfl (Q5 rfl rfl) <| wN zr24 rfl rfl fun b20 => wS (Qd y14.1 v18) sz24 rfl rfl rfl rfl rfl (XF h19) .here u2 <| wA (errV 104 y14.2) rfl rfl <| wE <| wR rfl <| wM (errV 104 y14.2) rfl rfl <| w_d rfl (Yj (e := y14.2) Tryz.underlying30 rfl) ?_
  refine Qb ?_
  rcases its he with ⟨c21, he⟩ | ⟨c21, he⟩
  ·
   refine QD rfl c21 <| wR rfl <| w_d rfl (XE (cs' := [.bool false, .slice none 0 0]) Tryz.underlying24 zr24 rfl (by kernel_rfl) (parts := []) rfl .nil) <| w_d rfl (XE (cs' := [.bool false, .slice none 0 0]) Tryz.underlying24 zr24 rfl (by kernel_rfl) (parts := []) rfl .nil) <| wM (errV 104 y14.2) rfl rfl <| wS (.agg ⟨[.bool false, .slice none 0 0]⟩) sz24 rfl rfl rfl rfl rfl (oc rfl (oc rfl oz)) .h2 u2 <| wS (.agg ⟨[.bool false, .slice none 0 0]⟩) sz24 rfl rfl rfl rfl rfl (oc rfl (oc rfl oz)) .h1 u2 <| wA (errV 104 y14.2) rfl rfl <| Qb ?_
   obtain rfl := sj he
   refine Ql fn_124 rs_124 (.box (v := .agg ⟨[.bool false, .slice none 0 0]⟩) rfl ty24 rfl rfl .h2 rfl (.box (v := .agg ⟨[.bool false, .slice none 0 0]⟩) rfl ty24 rfl rfl .h1 rfl (.tmp (v := errV 104 y14.2) rfl .nil))) <| ⟨⟨[_, _, _, _, _], rfl⟩, hle.trans (e9.trans e17), ⟨.slice none 0 0, .slice none 0 0, rfl, (Xj _ _), (Xj _ _)⟩⟩
  ·
   refine QE rfl (Bool.eq_false_iff.2 c21) <| QF <| QX <| wR rfl <| w_d rfl (Xi (o' := 0) Tryz.underlying24 rfl sz4 rfl rfl rfl) <| wL (.bool a.f_neg) ty4 rfl rfl .h4 rfl rfl <| w_d rfl (Zs (b := a.f_neg) rfl) <| wM (.bool (!a.f_neg)) rfl rfl <| w_g (g := !(!a.f_neg)) rfl rfl rfl wn_f (fun g22 => QT (v := v12) rfl) <| w_g (g := !(!a.f_neg)) rfl rfl rfl wn_f (fun g23 => Xo Tryz.underlying22 (cvt g23) (h13.mono e17).src) <| w_g (g := !(!a.f_neg)) rfl rfl rfl wn_f (fun g24 => YY (cvt g24) rfl) ?_
   refine w_d rfl (d_or' (b := (!a.f_neg)) (p := (decide ((y6.2.length : Int) = 0))) rfl rfl rfl) <| Qb ?_
   rcases its he with ⟨c25, he⟩ | ⟨c25, he⟩
   ·
    refine QD rfl c25 <| QX <| bK he fun y26 hy27 he => XC (p := 5) (tl := [5, 6]) [[], [], [(1, some 51)], [(2, some 52)], [(0, some 50)]] [some 50, some 51, some 52, some 53, none] (fctF (.is (Qd y14.1 v18) :: .is (v12) :: .ro kU32 (y26) :: .of (fun H v => ∃ v32, v = .agg ⟨[.bool false, v32]⟩ ∧ Ro kU32 H v32 y26) (by rintro _ _ _ hle ⟨v32, rfl, h33⟩; exact ⟨v32, rfl, h33.mono hle⟩) :: .itm (fun H itq_ => itq_ = bx b3 (QO y14.1 v18) 24) (by rintro _ _ _ hle rfl; exact rfl) :: [])) (fun m_ => bx b20 (QO y14.1 v18) 24 :: bx b4 [.bool false, .slice none 0 0] 24 :: m_ 4 :: bx b2 (QO b v1_b) 24 :: bx b1 (QO a v0_a) 24 :: L) (fun i_ => if i_ = 4 then bx b3 [.bool false, .slice none 0 0] 24 else none) mixed (by kernel_rfl) (by kernel_rfl) rfl (Xq (by kernel_rfl)) ⟨(fun H' m_ hH hm_ hu_ => dn <| s_d (m_ 0) rfl (QN (v := (Qd y14.1 v18)) ty24 rfl .here rfl rfl rfl rfl) (by exact rfl) rfl), (fun H' m_ hH hm_ hu_ => dn <| s_d (m_ 1) rfl (QT (v := v12) rfl) (by exact rfl) rfl), (by rintro H' m_ hH hm_ hu_ _ rfl; exact dn <| s_k (m_ 2) rfl (Qm co119 (vs := [v12]) rfl (Xb.callsR k hy27 (h13.mono (e17.trans hH)))) rfl (by rintro v_ H_ _ ⟨rfl, e_, h_⟩; exact ⟨rfl, e_, h_⟩)), (by rintro H' m_ hH hm_ hu_ v30 (h31 : Ro kU32 H' v30 y26); exact dn <| s_d (m_ 3) rfl (XE (cs' := [.bool false, v30]) Tryz.underlying24 zr24 rfl (by kernel_rfl) (parts := [(0, .bool false), (1, v30)]) rfl (.cons (YH rfl sz4 rfl) rfl rfl u1 (.cons (YH rfl sz22 rfl) h31.cells rfl (.there u1) .nil))) (by exact ⟨v30, rfl, h31⟩) rfl), (by rintro H' m_ hH hm_ hu_ _ rfl; exact dn <| ZA (bx b3 (QO y14.1 v18) 24) hm_ rfl (YO (v := (Qd y14.1 v18)) sz24 rfl rfl rfl rfl (oc rfl (oc (h19.one) oz)) .h2 u2) rfl (by exact ⟨rfl, rfl⟩)), trivial⟩ ?_
    intro H34 e35
    rintro _ _ rfl _ _ rfl v30 _ (h31 : Ro kU32 H34 v30 y26) _ _ ⟨v32, rfl, h33⟩ _ _ ⟨rfl, rfl⟩
    refine w_it (L' := bx b20 (QO y14.1 v18) 24 :: bx b4 [.bool false, .slice none 0 0] 24 :: bx b3 (QO y14.1 v18) 24 :: bx b2 (QO b v1_b) 24 :: bx b1 (QO a v0_a) 24 :: L) rfl <| wS (.agg ⟨[.bool false, v32]⟩) sz24 rfl rfl rfl rfl rfl (oc rfl (oc (h33.one) oz)) .h1 u2 <| wA (errV 104 none) rfl rfl <| Qb ?_
    obtain rfl := sj he
    refine Ql fn_124 rs_124 (.box (v := (Qd y14.1 v18)) rfl ty24 rfl rfl .h2 rfl (.box (v := .agg ⟨[.bool false, v32]⟩) rfl ty24 rfl rfl .h1 rfl (.tmp (v := errV 104 none) rfl .nil))) <| ⟨⟨[_, _, _, _, _], rfl⟩, hle.trans ((e9.trans e17).trans e35), ⟨v18, v32, rfl, (h19.mono e35), h33⟩⟩
   ·
    refine QE rfl (Bool.eq_false_iff.2 c25) <| QF <| wR rfl <| bK he fun y36 hy37 he => w_a rfl (Qm co71 (vs := [.int .i64 1]) rfl (XK.calls k hy37)) ?_
    rintro _ H38 _ ⟨rfl, e39, v40, rfl, h41⟩
    refine wN zr24 rfl rfl fun b42 => wS (Qd y36 v40) sz24 rfl rfl rfl rfl rfl (XF h41) .here u2 <| wE <| wR rfl <| w_d rfl (Xi (o' := 0) Tryz.underlying24 rfl sz4 rfl rfl rfl) <| wL (.bool b.f_neg) ty4 rfl rfl .h4 rfl rfl <| w_d rfl (Zs (b := b.f_neg) rfl) <| Qb ?_
    rcases its he with ⟨c43, he⟩ | ⟨c43, he⟩
    ·
     refine QD rfl c43 <| QL rfl <| wL (Qd y36 v40) ty24 rfl rfl .here rfl rfl <| bK he fun y44 hy45 he => w_a rfl (Qm co121 (vs := [(Qd y36 v40)]) rfl (Xy.calls k (a := y36) hy45 h41)) ?_
     rintro _ H46 _ ⟨rfl, e47, v48, rfl, h49⟩
     refine wS (Qd y44 v48) sz24 rfl rfl rfl rfl rfl (XF h49) .here u2 <| Qb <| Yu .h5 <| w_sl 3 (pt b2) rfl <| w_sl 4 (pt b3) rfl <| w_sl 5 (pt b4) rfl <| w_sl 6 (errV 104 none) rfl <| w_sl 8 (v12) rfl <| w_sl 9 (pt b20) rfl <| w_sl 11 (pt b42) rfl <| Xm.j1_ok (k := k) (hle.trans (((e9.trans e17).trans e39).trans e47)) he (h1_b.mono (((e9.trans e17).trans e39).trans e47)) (h13.mono ((e17.trans e39).trans e47)) (h19.mono (e39.trans e47)) h49
    ·
     refine QE rfl (Bool.eq_false_iff.2 c43) <| QF <| Yu .h5 <| w_sl 3 (pt b2) rfl <| w_sl 4 (pt b3) rfl <| w_sl 5 (pt b4) rfl <| w_sl 6 (errV 104 none) rfl <| w_sl 8 (v12) rfl <| w_sl 9 (pt b20) rfl <| w_sl 11 (pt b42) rfl <| Xm.j1_ok (k := k) (hle.trans ((e9.trans e17).trans e39)) he (h1_b.mono ((e9.trans e17).trans e39)) (h13.mono (e17.trans e39)) (h19.mono e39) h41
noncomputable def QR.C : Code := (Tryz.f122.body).getD .skip
def QR.out (r : Qv × (Option Int)) (H : Hp) (v : Value) : Prop := ∃ v0, v = .tuple ⟨[(Qd r.1 v0), errV 104 r.2]⟩ ∧ Ro kU32 H v0 r.1.f_w
theorem QR.out_mono (r : Qv × (Option Int)) {H H' : Hp} {v : Value} (hle : H.le H') (h : QR.out r H v) : QR.out r H' v := by
 obtain ⟨v0, rfl, h0⟩ := h; exact ⟨v0, rfl, h0.mono hle⟩
abbrev QR.R (H0 : Hp) (L : Items) (r : Qv × (Option Int)) := fR H0 L (QR.out r)
structure QR.Hs where
 l0 : Bool → (List Int) → Bool → (List Int) → Bool → (List Int) → (Option Int) → Option (Qv × (Option Int))
noncomputable def QR.b0 (k : Nat) (h : QR.Hs) (a_0 : Bool) (a_1 : List Int) (b_0 : Bool) (b_1 : List Int) (t4_0 : Bool) (t4_1 : List Int) (t5 : Option Int) : Option (Qv × (Option Int)) := (Xr.f k ⟨b_0, b_1⟩).bind fun y4 => if y4 = 0 then (some (⟨a_0, a_1⟩, none)) else ((Xm.f k ⟨a_0, a_1⟩ ⟨b_0, b_1⟩).bind fun y9 => if y9.2.2.isSome = true then (some (⟨false, []⟩, y9.2.2)) else (h.l0 b_0 b_1 y9.2.1.f_neg y9.2.1.f_w t4_0 t4_1 t5))
noncomputable def QR.hs : Nat → QR.Hs
 | 0 => ⟨fun _ _ _ _ _ _ _ => none⟩
 | k + 1 => ⟨fun x0 x1 x2 x3 x4 x5 x6 => QR.b0 k (QR.hs k) x0 x1 x2 x3 x4 x5 x6⟩
noncomputable def QR.f (k : Nat) (a b : Qv) : Option (Qv × (Option Int)) := (fun h : QR.Hs => h.l0 a.f_neg a.f_w b.f_neg b.f_w false [] none) (QR.hs k)
structure QR.LE (h h' : QR.Hs) : Prop where
 l0 : ∀ y0 y1 y2 y3 y4 y5 y6, LeO (h.l0 y0 y1 y2 y3 y4 y5 y6) (h'.l0 y0 y1 y2 y3 y4 y5 y6)
theorem QR.b0_mono {k : Nat} {h h' : QR.Hs} (hl : QR.LE h h') : ∀ y0 y1 y2 y3 y4 y5 y6, LeO (QR.b0 k h y0 y1 y2 y3 y4 y5 y6) (QR.b0 (k + 1) h' y0 y1 y2 y3 y4 y5 y6) := fun _ _ _ _ _ _ _ => (LeO.bind (Xr.mono k _) fun _ => LeO.ite (LeO.refl _) (LeO.bind (Xm.mono k _ _) fun _ => LeO.ite (LeO.refl _) (hl.l0 _ _ _ _ _ _ _)))
theorem QR.hs_mono : ∀ k, QR.LE (QR.hs k) (QR.hs (k + 1))
 | 0 => ⟨fun _ _ _ _ _ _ _ => LeO.none _⟩
 | k + 1 => ⟨QR.b0_mono (k := k) (QR.hs_mono k)⟩
theorem QR.mono : ∀ k y0 y1, LeO (QR.f k y0 y1) (QR.f (k + 1) y0 y1) := fun k _ _ => have hl := QR.hs_mono k; by unfold QR.f; exact (hl.l0 _ _ _ _ _ _ _)
noncomputable def QR.Kl0 : List Item := .code (lopB (blkB (seqL (seqR QR.C)))) :: .inLoop (lopB (blkB (seqL (seqR QR.C)))) :: .inBlock 0 :: .code (seqR (seqR QR.C)) :: []
structure QR.OK (h : QR.Hs) : Prop where
 l0 : ∀ {H0 H : Hp} {L : Items} {r : Qv × (Option Int)} {jk_ : Nat → Value} {a_0 : Bool} {a_1 : List Int} {b_0 : Bool} {b_1 : List Int} {t4_0 : Bool} {t4_1 : List Int} {t5 : Option Int} {v_a_1 : Value} {v_b_1 : Value} {v_t4_1 : Value} {b_a : Nat} {b_b : Nat} {b_t4 : Nat} (_ : H0.le H) (_he : h.l0 a_0 a_1 b_0 b_1 t4_0 t4_1 t5 = some r) (_h_a_1 : Ro kU32 H v_a_1 a_1) (_h_b_1 : Ro kU32 H v_b_1 b_1) (_h_t4_1 : Ro kU32 H v_t4_1 t4_1), Wp Tryz.prog 122 26 QR.Kl0 (upd (upd (upd (upd jk_ 2 (pt b_a)) 3 (pt b_b)) 4 (pt b_t4)) 5 (errV 104 t5)) H (bx b_t4 [.bool t4_0, v_t4_1] 24 :: bx b_b [.bool b_0, v_b_1] 24 :: bx b_a [.bool a_0, v_a_1] 24 :: L) (QR.R H0 L r)
theorem QR.b0_ok {k : Nat} {h : QR.Hs} (hh : QR.OK h) {H0 H : Hp} {L : Items} {r : Qv × (Option Int)} {jk_ : Nat → Value} {a_0 : Bool} {a_1 : List Int} {b_0 : Bool} {b_1 : List Int} {t4_0 : Bool} {t4_1 : List Int} {t5 : Option Int} {v_a_1 v_b_1 v_t4_1 : Value} {b_a b_b b_t4 : Nat} (hle : H0.le H) (he : QR.b0 k h a_0 a_1 b_0 b_1 t4_0 t4_1 t5 = some r) (h_a_1 : Ro kU32 H v_a_1 a_1) (h_b_1 : Ro kU32 H v_b_1 b_1) (h_t4_1 : Ro kU32 H v_t4_1 t4_1) : Wp Tryz.prog 122 26 QR.Kl0 (upd (upd (upd (upd jk_ 2 (pt b_a)) 3 (pt b_b)) 4 (pt b_t4)) 5 (errV 104 t5)) H (bx b_t4 [.bool t4_0, v_t4_1] 24 :: bx b_b [.bool b_0, v_b_1] 24 :: bx b_a [.bool a_0, v_a_1] 24 :: L) (QR.R H0 L r) := by
 unfold QR.b0 at he
 unfold QR.Kl0
 refine QX <| wR rfl <| wL (.agg ⟨[.bool b_0, v_b_1]⟩) ty24 rfl rfl .h1 rfl rfl <| bK he fun y4 hy5 he => w_d rfl (Xx (Qm co84 (vs := [.agg ⟨[.bool b_0, v_b_1]⟩]) rfl (Xr.calls k (a := ⟨b_0, b_1⟩) hy5 h_b_1))) <| w_d rfl (Zl rfl rfl) <| Qb ?_
 rcases its he with ⟨c8, he⟩ | ⟨c8, he⟩
 ·
  refine QE rfl (nd_t c8) <| X3 rfl <| wR rfl <| wL (.agg ⟨[.bool a_0, v_a_1]⟩) ty24 rfl rfl .h2 rfl rfl <| wS (.agg ⟨[.bool a_0, v_a_1]⟩) sz24 rfl rfl rfl rfl rfl (oc rfl (oc (h_a_1.one) oz)) .here u2 <| wA (errV 104 none) rfl rfl <| Qb ?_
  obtain rfl := sj he
  refine Ql fn_122 rs_122 (.box (v := .agg ⟨[.bool a_0, v_a_1]⟩) rfl ty24 rfl rfl .here rfl (.tmp (v := errV 104 none) rfl .nil)) <| ⟨⟨[_, _, _], rfl⟩, hle, ⟨v_a_1, rfl, h_a_1⟩⟩
 ·
  refine QD rfl (nd_f c8) <| QF <| Q2 <| wR rfl <| wL (.agg ⟨[.bool a_0, v_a_1]⟩) ty24 rfl rfl .h2 rfl rfl <| wL (.agg ⟨[.bool b_0, v_b_1]⟩) ty24 rfl rfl .h1 rfl rfl <| bK he fun y9 hy10 he => w_a rfl (Qm co124 (vs := [.agg ⟨[.bool a_0, v_a_1]⟩, .agg ⟨[.bool b_0, v_b_1]⟩]) rfl (Xm.calls k (a := ⟨a_0, a_1⟩) (b := ⟨b_0, b_1⟩) hy10 h_a_1 h_b_1)) ?_
  rintro _ H11 _ ⟨rfl, e12, v13, v15, rfl, h14, h16⟩
  refine wM (.tuple ⟨[(Qd y9.1 v13), (Qd y9.2.1 v15), errV 104 y9.2.2]⟩) rfl rfl <| w_d rfl (Q5 rfl rfl) <| w_d rfl (Q5 rfl rfl) <| w_d rfl (Q5 rfl rfl) <| wN zr24 rfl rfl fun b17 => wN zr24 rfl rfl fun b18 => wS (Qd y9.1 v13) sz24 rfl rfl rfl rfl rfl (XF h14) .h1 u2 <| wS (Qd y9.2.1 v15) sz24 rfl rfl rfl rfl rfl (XF h16) .here u2 <| wA (errV 104 y9.2.2) rfl rfl <| wE <| QX ?_
  refine QL rfl <| wM (errV 104 y9.2.2) rfl rfl <| w_d rfl (Yj (e := y9.2.2) Tryz.underlying30 rfl) <| Qb ?_
  rcases its he with ⟨c19, he⟩ | ⟨c19, he⟩
  ·
   refine QD rfl c19 <| wR rfl <| w_d rfl (XE (cs' := [.bool false, .slice none 0 0]) Tryz.underlying24 zr24 rfl (by kernel_rfl) (parts := []) rfl .nil) <| wM (errV 104 y9.2.2) rfl rfl <| wS (.agg ⟨[.bool false, .slice none 0 0]⟩) sz24 rfl rfl rfl rfl rfl (oc rfl (oc rfl oz)) .h2 u2 <| wA (errV 104 y9.2.2) rfl rfl <| Qb ?_
   obtain rfl := sj he
   refine Ql fn_122 rs_122 (.box (v := .agg ⟨[.bool false, .slice none 0 0]⟩) rfl ty24 rfl rfl .h2 rfl (.tmp (v := errV 104 y9.2.2) rfl .nil)) <| ⟨⟨[_, _, _, _, _], rfl⟩, hle.trans e12, ⟨.slice none 0 0, rfl, (Xj _ _)⟩⟩
  ·
   refine QE rfl (Bool.eq_false_iff.2 c19) <| QF <| XC (p := 3) (tl := [3]) [[], [], [(0, some 23)]] [some 23, some 24, none] (fctF (.is (.agg ⟨[.bool b_0, v_b_1]⟩) :: .is (Qd y9.2.1 v15) :: .itm (fun H itq_ => itq_ = bx b_a [.bool b_0, v_b_1] 24) (by rintro _ _ _ hle rfl; exact rfl) :: [])) (fun m_ => bx b18 (QO y9.2.1 v15) 24 :: bx b17 (QO y9.1 v13) 24 :: bx b_t4 [.bool t4_0, v_t4_1] 24 :: bx b_b [.bool b_0, v_b_1] 24 :: m_ 2 :: L) (fun i_ => if i_ = 2 then bx b_a [.bool a_0, v_a_1] 24 else none) mixed (by kernel_rfl) (by kernel_rfl) rfl (Xq (by kernel_rfl)) ⟨(fun H' m_ hH hm_ hu_ => dn <| s_d (m_ 0) rfl (QN (v := .agg ⟨[.bool b_0, v_b_1]⟩) ty24 rfl .h3 rfl rfl rfl rfl) (by exact rfl) rfl), (fun H' m_ hH hm_ hu_ => dn <| s_d (m_ 1) rfl (QN (v := (Qd y9.2.1 v15)) ty24 rfl .here rfl rfl rfl rfl) (by exact rfl) rfl), (by rintro H' m_ hH hm_ hu_ _ rfl; exact dn <| ZA (bx b_a [.bool b_0, v_b_1] 24) hm_ rfl (YO (v := .agg ⟨[.bool b_0, v_b_1]⟩) sz24 rfl rfl rfl rfl (oc rfl (oc (h_b_1.one) oz)) .h4 u2) rfl (by exact ⟨rfl, rfl⟩)), trivial⟩ ?_
   intro H20 e21
   rintro _ _ rfl _ _ rfl _ _ ⟨rfl, rfl⟩
   refine w_it (L' := bx b18 (QO y9.2.1 v15) 24 :: bx b17 (QO y9.1 v13) 24 :: bx b_t4 [.bool t4_0, v_t4_1] 24 :: bx b_b [.bool b_0, v_b_1] 24 :: bx b_a [.bool b_0, v_b_1] 24 :: L) rfl <| wS (Qd y9.2.1 v15) sz24 rfl rfl rfl rfl rfl (XF h16) .h3 u2 <| Qb <| Xw <| XG <| Yu .h1 <| Yu .here <| w_sl 2 (pt b_a) rfl <| w_sl 3 (pt b_b) rfl <| w_sl 4 (pt b_t4) rfl <| w_sl 5 (errV 104 t5) rfl <| hh.l0 (hle.trans (e12.trans e21)) he (h_b_1.mono (e12.trans e21)) (h16.mono e21) (h_t4_1.mono (e12.trans e21))
theorem QR.ok : ∀ k, QR.OK (QR.hs k)
 | 0 => ⟨(by intros; exact nomatch (show none = some _ from by assumption))⟩
 | k + 1 => ⟨QR.b0_ok (k := k) (QR.ok k)⟩
theorem QR.calls (k : Nat) {H : Hp} {L : Items} {a b : Qv} {v0_a v1_b : Value} {r : Qv × (Option Int)} (he : QR.f k a b = some r) (h0_a : Ro kU32 H v0_a a.f_w) (h1_b : Ro kU32 H v1_b b.f_w) : Ct Tryz.prog 122 ⟨[(Qd a v0_a), (Qd b v1_b)]⟩ H L (cR H L (QR.out r)) := by
 refine XN (O := QR.out r) ?_
 have hle : H.le H := .refl _
 have hh := QR.ok k
 unfold QR.f at he
 refine QV (args := [_, _]) fn_122 rfl nt_122 rfl <| wR rfl <| wB (Qd a v0_a) rfl rfl rfl <| fun b1 => wB (Qd b v1_b) rfl rfl rfl <| fun b2 => wN zr24 rfl rfl fun b3 => wA (errV 104 none) rfl rfl <| wE <| Q2 <| X5 <| w_sl 2 (pt b1) rfl ?_
 refine w_sl 3 (pt b2) rfl <| w_sl 4 (pt b3) rfl <| w_sl 5 (errV 104 none) rfl <| hh.l0 hle he h0_a h1_b (Xj _ _)
noncomputable def XD.C : Code := (Tryz.f73.body).getD .skip
def XD.out (r : Qf × (Option Int)) (H : Hp) (v : Value) : Prop := ∃ v0 v1, v = .tuple ⟨[(Qc r.1 v0 v1), errV 104 r.2]⟩ ∧ Ro kU32 H v0 r.1.f_n.f_w ∧ Ro kU32 H v1 r.1.f_d.f_w
theorem XD.out_mono (r : Qf × (Option Int)) {H H' : Hp} {v : Value} (hle : H.le H') (h : XD.out r H v) : XD.out r H' v := by
 obtain ⟨v0, v1, rfl, h0, h1⟩ := h; exact ⟨v0, v1, rfl, h0.mono hle, h1.mono hle⟩
abbrev XD.R (H0 : Hp) (L : Items) (r : Qf × (Option Int)) := fR H0 L (XD.out r)
noncomputable def XD.j1 (k : Nat) (n_0 : Bool) (n_1 : List Int) (d_0 : Bool) (d_1 : List Int) : Option (Qf × (Option Int)) := (Yz.f k ⟨n_0, n_1⟩).bind fun y28 => (QR.f k y28 ⟨d_0, d_1⟩).bind fun y34 => if y34.2.isSome = true then (some (⟨⟨false, []⟩, ⟨false, []⟩⟩, y34.2)) else ((Xm.f k ⟨n_0, n_1⟩ y34.1).bind fun y52 => if y52.2.2.isSome = true then (some (⟨⟨false, []⟩, ⟨false, []⟩⟩, y52.2.2)) else ((Xm.f k ⟨d_0, d_1⟩ y34.1).bind fun y63 => if y63.2.2.isSome = true then (some (⟨⟨false, []⟩, ⟨false, []⟩⟩, y63.2.2)) else (some (⟨y52.1, y63.1⟩, none))))
noncomputable def XD.f (k : Nat) (n d : Qv) : Option (Qf × (Option Int)) := (Xr.f k d).bind fun y4 => if y4 = 0 then (some (⟨⟨false, []⟩, ⟨false, []⟩⟩, some 11)) else ((Xr.f k d).bind fun y9 => if y9 < 0 then ((Xy.f k n).bind fun y14 => (Xy.f k d).bind fun y22 => XD.j1 k y14.f_neg y14.f_w y22.f_neg y22.f_w) else (XD.j1 k n.f_neg n.f_w d.f_neg d.f_w))
theorem XD.j1_mono {k : Nat} : ∀ y0 y1 y2 y3, LeO (XD.j1 k y0 y1 y2 y3) (XD.j1 (k + 1) y0 y1 y2 y3) := fun _ _ _ _ => (LeO.bind (Yz.mono k _) fun _ => LeO.bind (QR.mono k _ _) fun _ => LeO.ite (LeO.refl _) (LeO.bind (Xm.mono k _ _) fun _ => LeO.ite (LeO.refl _) (LeO.bind (Xm.mono k _ _) fun _ => LeO.ite (LeO.refl _) (LeO.refl _))))
theorem XD.mono : ∀ k y0 y1, LeO (XD.f k y0 y1) (XD.f (k + 1) y0 y1) := fun k _ _ => by unfold XD.f; exact (LeO.bind (Xr.mono k _) fun _ => LeO.ite (LeO.refl _) (LeO.bind (Xr.mono k _) fun _ => LeO.ite (LeO.bind (Xy.mono k _) fun _ => LeO.bind (Xy.mono k _) fun _ => XD.j1_mono (k := k)  _ _ _ _) (XD.j1_mono (k := k)  _ _ _ _)))
noncomputable def XD.Kj1 : List Item := .code (seqR (seqR (seqR XD.C))) :: []
theorem XD.j1_ok {k : Nat} {H0 H : Hp} {L : Items} {r : Qf × (Option Int)} {jk_ : Nat → Value} {n_0 : Bool} {n_1 : List Int} {d_0 : Bool} {d_1 : List Int} {v_n_1 v_d_1 : Value} {b_n b_d b_t4 : Nat} (hle : H0.le H) (he : XD.j1 k n_0 n_1 d_0 d_1 = some r) (h_n_1 : Ro kU32 H v_n_1 n_1) (h_d_1 : Ro kU32 H v_d_1 d_1) : Wp Tryz.prog 73 60 XD.Kj1 (upd (upd (upd (upd jk_ 2 (pt b_n)) 3 (pt b_d)) 4 (pt b_t4)) 5 (errV 104 none)) H (bx b_t4 z0c 26 :: bx b_d [.bool d_0, v_d_1] 24 :: bx b_n [.bool n_0, v_n_1] 24 :: L) (XD.R H0 L r) := by
 unfold XD.j1 at he
 unfold XD.Kj1
 refine QX <| bK he fun y28 hy29 he => bK he fun y34 hy35 he => ?_
 refine YG (?_)
 refine XC (p := 9) (tl := [9]) [[], [(0, some 25)], [], [(1, some 26), (2, some 27)], [(3, some 28)], [(4, some 24)], [(4, some 24)], [], [(5, some 29), (7, some 6)]] [some 25, some 26, some 27, some 28, some 24, some 29, some 30, some 6, none] (fctF (.is (.agg ⟨[.bool n_0, v_n_1]⟩) :: .of (Yz.out y28) (Yz.out_mono _) :: .is (.agg ⟨[.bool d_0, v_d_1]⟩) :: .of (QR.out y34) (QR.out_mono _) :: .of (fun H v => ∃ v40, v = .tuple ⟨[(Qd y34.1 v40), errV 104 y34.2]⟩ ∧ Ro kU32 H v40 y34.1.f_w) (by rintro _ _ _ hle ⟨v40, rfl, h41⟩; exact ⟨v40, rfl, h41.mono hle⟩) :: .of (fun H v => ∃ v42, v = (Qd y34.1 v42) ∧ Ro kU32 H v42 y34.1.f_w) (by rintro _ _ _ hle ⟨v42, rfl, h43⟩; exact ⟨v42, rfl, h43.mono hle⟩) :: .is (errV 104 y34.2) :: .box 24 [.bool false, .slice none 0 0] :: .st 7 (fun H bq_ itq_ => ∃ v45, itq_ = bx bq_ (QO y34.1 v45) 24 ∧ Ro kU32 H v45 y34.1.f_w) (by rintro _ _ _ _ hle ⟨v45, rfl, h46⟩; exact ⟨v45, rfl, h46.mono hle⟩) :: [])) (fun m_ => pk (m_ 8) (m_ 7) :: bx b_t4 z0c 26 :: bx b_d [.bool d_0, v_d_1] 24 :: bx b_n [.bool n_0, v_n_1] 24 :: L) (fun _ => none) mixed (by kernel_rfl) (by kernel_rfl) rfl (Xq (by kernel_rfl)) ⟨(fun H' m_ hH hm_ hu_ => dn <| s_d (m_ 0) rfl (QN (v := .agg ⟨[.bool n_0, v_n_1]⟩) ty24 rfl .h3 rfl rfl rfl rfl) (by exact rfl) rfl), (by rintro H' m_ hH hm_ hu_ _ rfl; exact dn <| s_k (m_ 1) rfl (Qm co123 (vs := [.agg ⟨[.bool n_0, v_n_1]⟩]) rfl (Yz.calls k (a := ⟨n_0, n_1⟩) hy29 (h_n_1.mono hH))) rfl (by rintro v_ H_ _ ⟨rfl, e_, h_⟩; exact ⟨rfl, e_, h_⟩)), (fun H' m_ hH hm_ hu_ => dn <| s_d (m_ 2) rfl (QN (v := .agg ⟨[.bool d_0, v_d_1]⟩) ty24 rfl .h2 rfl rfl rfl rfl) (by exact rfl) rfl), (by rintro H' m_ hH hm_ hu_ _ ⟨v32, rfl, h33⟩ _ rfl; exact dn <| s_k (m_ 3) rfl (Qm co122 (vs := [(Qd y28 v32), .agg ⟨[.bool d_0, v_d_1]⟩]) rfl (QR.calls k (a := y28) (b := ⟨d_0, d_1⟩) hy35 h33 (h_d_1.mono hH))) rfl (by rintro v_ H_ _ ⟨rfl, e_, h_⟩; exact ⟨rfl, e_, h_⟩)), (by rintro H' m_ hH hm_ hu_ _ ⟨v38, rfl, h39⟩; exact dn <| s_d (m_ 4) rfl (QT (v := .tuple ⟨[(Qd y34.1 v38), errV 104 y34.2]⟩) rfl) (by exact ⟨v38, rfl, h39⟩) rfl), (by rintro H' m_ hH hm_ hu_ _ ⟨v40, rfl, h41⟩; exact dn <| s_d (m_ 5) rfl (Q5 rfl rfl) (by exact ⟨v40, rfl, h41⟩) rfl), (by rintro H' m_ hH hm_ hu_ _ ⟨v40, rfl, h41⟩; exact dn <| s_d (m_ 6) rfl (Q5 rfl rfl) (by exact rfl) rfl), (fun H' m_ hH hm_ hu_ => dn <| Y8 hm_ rfl rfl (YT zr24 rfl) rfl (fun _ => (ZZ (hu_ 8 (by kernel_rfl)))) (by exact fun b_ => ⟨b_, rfl, rfl⟩)), (by rintro H' m_ hH hm_ hu_ _ ⟨v42, rfl, h43⟩ _ ⟨b44, rfl, hb44_⟩; exact dn <| Zv (Λ' := fun z_ => z_ :: bx b_t4 z0c 26 :: bx b_d [.bool d_0, v_d_1] 24 :: bx b_n [.bool n_0, v_n_1] 24 :: L) (bx b44 (QO y34.1 v42) 24) hm_ rfl hb44_ rfl (YO (v := (Qd y34.1 v42)) sz24 rfl rfl rfl rfl (oc rfl (oc (h43.one) oz)) .here u2) rfl rfl (by exact ⟨rfl, v42, congrArg (fun b_ => (some (b_, Obj.cells ⟨(QO y34.1 v42)⟩ 24 (0, 0)) : Item')) (Z2 hb44_).symm, h43⟩)), trivial⟩ ?_
 intro H49 e50
 rintro _ _ rfl _ _ ⟨v32, rfl, h33⟩ _ _ rfl _ _ ⟨v38, rfl, h39⟩ _ _ ⟨v40, rfl, h41⟩ _ _ ⟨v42, rfl, h43⟩ _ _ rfl _ _ ⟨b44, rfl, rfl⟩ _ i47 ⟨rfl, v45, h48, h46⟩
 replace h48 : i47 = bx b44 (QO y34.1 v45) 24 := h48
 subst h48
 refine w_it (L' := bx b44 (QO y34.1 v45) 24 :: bx b_t4 z0c 26 :: bx b_d [.bool d_0, v_d_1] 24 :: bx b_n [.bool n_0, v_n_1] 24 :: L) rfl <| wA (errV 104 y34.2) rfl rfl <| wE <| wR rfl <| wM (errV 104 y34.2) rfl rfl <| w_d rfl (Yj (e := y34.2) Tryz.underlying30 rfl) <| Qb ?_
 rcases its he with ⟨c51, he⟩ | ⟨c51, he⟩
 ·
  refine QD rfl c51 <| wR rfl <| w_d rfl (XE (cs' := z0c) Tryz.underlying26 zr26 rfl (by kernel_rfl) (parts := []) rfl .nil) <| wM (errV 104 y34.2) rfl rfl <| wS (.agg ⟨z0c⟩) sz26 rfl rfl rfl rfl rfl (oc rfl (oc rfl (oc rfl (oc rfl oz)))) .h1 u4 <| wA (errV 104 y34.2) rfl rfl <| Qb ?_
  obtain rfl := sj he
  refine Ql fn_73 rs_73 (.box (v := .agg ⟨z0c⟩) rfl ty26 rfl rfl .h1 rfl (.tmp (v := errV 104 y34.2) rfl .nil)) <| ⟨⟨[_, _, _, _], rfl⟩, hle.trans e50, ⟨.slice none 0 0, .slice none 0 0, rfl, (Xj _ _), (Xj _ _)⟩⟩
 ·
  refine QE rfl (Bool.eq_false_iff.2 c51) <| QF <| wR rfl <| wL (.agg ⟨[.bool n_0, v_n_1]⟩) ty24 rfl rfl .h3 rfl rfl <| wL (Qd y34.1 v45) ty24 rfl rfl .here rfl rfl <| bK he fun y52 hy53 he => w_a rfl (Qm co124 (vs := [.agg ⟨[.bool n_0, v_n_1]⟩, (Qd y34.1 v45)]) rfl (Xm.calls k (a := ⟨n_0, n_1⟩) (b := y34.1) hy53 (h_n_1.mono e50) h46)) ?_
  rintro _ H54 _ ⟨rfl, e55, v56, v58, rfl, h57, h59⟩
  refine wM (.tuple ⟨[(Qd y52.1 v56), (Qd y52.2.1 v58), errV 104 y52.2.2]⟩) rfl rfl <| w_d rfl (Q5 rfl rfl) <| w_d rfl (Q5 rfl rfl) <| w_d rfl (Q5 rfl rfl) <| wN zr24 rfl rfl fun b60 => wN zr24 rfl rfl fun b61 => wS (Qd y52.1 v56) sz24 rfl rfl rfl rfl rfl (XF h57) .h1 u2 <| wS (Qd y52.2.1 v58) sz24 rfl rfl rfl rfl rfl (XF h59) .here u2 <| wA (errV 104 y52.2.2) rfl rfl <| wE <| QX ?_
  refine QL rfl <| wM (errV 104 y52.2.2) rfl rfl <| w_d rfl (Yj (e := y52.2.2) Tryz.underlying30 rfl) <| Qb ?_
  rcases its he with ⟨c62, he⟩ | ⟨c62, he⟩
  ·
   refine QD rfl c62 <| wR rfl <| w_d rfl (XE (cs' := z0c) Tryz.underlying26 zr26 rfl (by kernel_rfl) (parts := []) rfl .nil) <| wM (errV 104 y52.2.2) rfl rfl <| wS (.agg ⟨z0c⟩) sz26 rfl rfl rfl rfl rfl (oc rfl (oc rfl (oc rfl (oc rfl oz)))) .h3 u4 <| wA (errV 104 y52.2.2) rfl rfl <| Qb ?_
   obtain rfl := sj he
   refine Ql fn_73 rs_73 (.box (v := .agg ⟨z0c⟩) rfl ty26 rfl rfl .h3 rfl (.tmp (v := errV 104 y52.2.2) rfl .nil)) <| ⟨⟨[_, _, _, _, _, _], rfl⟩, hle.trans (e50.trans e55), ⟨.slice none 0 0, .slice none 0 0, rfl, (Xj _ _), (Xj _ _)⟩⟩
  ·
   refine QE rfl (Bool.eq_false_iff.2 c62) <| QF <| wR rfl <| wL (.agg ⟨[.bool d_0, v_d_1]⟩) ty24 rfl rfl .h4 rfl rfl <| wL (Qd y34.1 v45) ty24 rfl rfl .h2 rfl rfl <| bK he fun y63 hy64 he => w_a rfl (Qm co124 (vs := [.agg ⟨[.bool d_0, v_d_1]⟩, (Qd y34.1 v45)]) rfl (Xm.calls k (a := ⟨d_0, d_1⟩) (b := y34.1) hy64 (h_d_1.mono (e50.trans e55)) (h46.mono e55))) ?_
   rintro _ H65 _ ⟨rfl, e66, v67, v69, rfl, h68, h70⟩
   refine wM (.tuple ⟨[(Qd y63.1 v67), (Qd y63.2.1 v69), errV 104 y63.2.2]⟩) rfl rfl <| w_d rfl (Q5 rfl rfl) <| w_d rfl (Q5 rfl rfl) <| w_d rfl (Q5 rfl rfl) <| wN zr24 rfl rfl fun b71 => wN zr24 rfl rfl fun b72 => wS (Qd y63.1 v67) sz24 rfl rfl rfl rfl rfl (XF h68) .h1 u2 <| wS (Qd y63.2.1 v69) sz24 rfl rfl rfl rfl rfl (XF h70) .here u2 <| wA (errV 104 y63.2.2) rfl rfl <| wE <| QX ?_
   refine QL rfl <| wM (errV 104 y63.2.2) rfl rfl <| w_d rfl (Yj (e := y63.2.2) Tryz.underlying30 rfl) <| Qb ?_
   rcases its he with ⟨c73, he⟩ | ⟨c73, he⟩
   ·
    refine QD rfl c73 <| wR rfl <| w_d rfl (XE (cs' := z0c) Tryz.underlying26 zr26 rfl (by kernel_rfl) (parts := []) rfl .nil) <| wM (errV 104 y63.2.2) rfl rfl <| wS (.agg ⟨z0c⟩) sz26 rfl rfl rfl rfl rfl (oc rfl (oc rfl (oc rfl (oc rfl oz)))) .h5 u4 <| wA (errV 104 y63.2.2) rfl rfl <| Qb ?_
    obtain rfl := sj he
    refine Ql fn_73 rs_73 (.box (v := .agg ⟨z0c⟩) rfl ty26 rfl rfl .h5 rfl (.tmp (v := errV 104 y63.2.2) rfl .nil)) <| ⟨⟨[_, _, _, _, _, _, _, _], rfl⟩, hle.trans ((e50.trans e55).trans e66), ⟨.slice none 0 0, .slice none 0 0, rfl, (Xj _ _), (Xj _ _)⟩⟩
   ·
    refine QE rfl (Bool.eq_false_iff.2 c73) <| QF <| wR rfl <| wL (Qd y52.1 v56) ty24 rfl rfl .h3 rfl rfl <| wL (Qd y63.1 v67) ty24 rfl rfl .h1 rfl rfl <| w_d rfl (XE (cs' := [.bool y52.1.f_neg, v56, .bool y63.1.f_neg, v67]) Tryz.underlying26 zr26 rfl (by kernel_rfl) (parts := [(0, (Qd y52.1 v56)), (1, (Qd y63.1 v67))]) rfl (.cons (YH rfl sz24 rfl) rfl rfl u2 (.cons (YH rfl sz24 rfl) rfl rfl (.there (.there u2)) .nil))) <| wS (.agg ⟨[.bool y52.1.f_neg, v56, .bool y63.1.f_neg, v67]⟩) sz26 rfl rfl rfl rfl rfl (oc rfl (oc (h57.one) (oc rfl (oc (h68.one) oz)))) .h5 u4 <| wA (errV 104 none) rfl rfl <| Qb ?_
    obtain rfl := sj he
    refine Ql fn_73 rs_73 (.box (v := .agg ⟨[.bool y52.1.f_neg, v56, .bool y63.1.f_neg, v67]⟩) rfl ty26 rfl rfl .h5 rfl (.tmp (v := errV 104 none) rfl .nil)) <| ⟨⟨[_, _, _, _, _, _, _, _], rfl⟩, hle.trans ((e50.trans e55).trans e66), ⟨v56, v67, rfl, (h57.mono e66), h68⟩⟩
theorem XD.calls (k : Nat) {H : Hp} {L : Items} {n d : Qv} {v0_n v1_d : Value} {r : Qf × (Option Int)} (he : XD.f k n d = some r) (h0_n : Ro kU32 H v0_n n.f_w) (h1_d : Ro kU32 H v1_d d.f_w) : Ct Tryz.prog 73 ⟨[(Qd n v0_n), (Qd d v1_d)]⟩ H L (cR H L (XD.out r)) := by
 refine XN (O := XD.out r) ?_
 have hle : H.le H := .refl _
 unfold XD.f at he
 refine QV (args := [_, _]) fn_73 rfl nt_73 rfl <| wR rfl <| wB (Qd n v0_n) rfl rfl rfl <| fun b1 => wB (Qd d v1_d) rfl rfl rfl <| fun b2 => wN zr26 rfl rfl fun b3 => wA (errV 104 none) rfl rfl <| wE <| wR rfl <| wL (Qd d v1_d) ty24 rfl rfl .h1 rfl rfl ?_
 refine bK he fun y4 hy5 he => w_d rfl (Xx (Qm co84 (vs := [(Qd d v1_d)]) rfl (Xr.calls k (a := d) hy5 h1_d))) <| w_d rfl (YY rfl rfl) <| Qb ?_
 rcases its he with ⟨c8, he⟩ | ⟨c8, he⟩
 ·
  refine QD rfl (dt c8) <| wR rfl <| w_d rfl (XE (cs' := z0c) Tryz.underlying26 zr26 rfl (by kernel_rfl) (parts := []) rfl .nil) <| w_d rfl (Zf (v := .int .i64 11) Tryz.underlying104 rfl rfl) <| wS (.agg ⟨z0c⟩) sz26 rfl rfl rfl rfl rfl (oc rfl (oc rfl (oc rfl (oc rfl oz)))) .here u4 <| wA (errV 104 (some 11)) rfl rfl <| Qb ?_
  obtain rfl := sj he
  refine Ql fn_73 rs_73 (.box (v := .agg ⟨z0c⟩) rfl ty26 rfl rfl .here rfl (.tmp (v := errV 104 (some 11)) rfl .nil)) <| ⟨⟨[_, _, _], rfl⟩, hle, ⟨.slice none 0 0, .slice none 0 0, rfl, (Xj _ _), (Xj _ _)⟩⟩
 ·
  refine QE rfl (df c8) <| QF <| QX <| wR rfl <| wL (Qd d v1_d) ty24 rfl rfl .h1 rfl rfl <| bK he fun y9 hy10 he => w_d rfl (Xx (Qm co84 (vs := [(Qd d v1_d)]) rfl (Xr.calls k (a := d) hy10 h1_d))) <| w_d rfl (XW rfl rfl) <| Qb ?_
  rcases its he with ⟨c13, he⟩ | ⟨c13, he⟩
  ·
   refine QD rfl (dt c13) <| bK he fun y14 hy15 he => XC (p := 3) (tl := [3, 4, 5]) [[], [(0, some 20)], []] [some 20, some 21, some 22] (fctF (.is (Qd n v0_n) :: .of (Xy.out y14) (Xy.out_mono _) :: .is (Qd d v1_d) :: [])) (fun m_ => bx b3 z0c 26 :: bx b2 (QO d v1_d) 24 :: bx b1 (QO n v0_n) 24 :: L) (fun _ => none) mixed (by kernel_rfl) (by kernel_rfl) rfl (Xq (by kernel_rfl)) ⟨(fun H' m_ hH hm_ hu_ => dn <| s_d (m_ 0) rfl (QN (v := (Qd n v0_n)) ty24 rfl .h2 rfl rfl rfl rfl) (by exact rfl) rfl), (by rintro H' m_ hH hm_ hu_ _ rfl; exact dn <| s_k (m_ 1) rfl (Qm co121 (vs := [(Qd n v0_n)]) rfl (Xy.calls k (a := n) hy15 (h0_n.mono hH))) rfl (by rintro v_ H_ _ ⟨rfl, e_, h_⟩; exact ⟨rfl, e_, h_⟩)), (fun H' m_ hH hm_ hu_ => dn <| s_d (m_ 2) rfl (QN (v := (Qd d v1_d)) ty24 rfl .h1 rfl rfl rfl rfl) (by exact rfl) rfl), trivial⟩ ?_
   intro H20 e21
   rintro _ _ rfl _ _ ⟨v18, rfl, h19⟩ _ _ rfl
   refine bK he fun y22 hy23 he => w_a rfl (Qm co121 (vs := [(Qd d v1_d)]) rfl (Xy.calls k (a := d) hy23 (h1_d.mono e21))) ?_
   rintro _ H24 _ ⟨rfl, e25, v26, rfl, h27⟩
   refine wS (Qd y14 v18) sz24 rfl rfl rfl rfl rfl (XF h19) .h2 u2 <| wS (Qd y22 v26) sz24 rfl rfl rfl rfl rfl (XF h27) .h1 u2 <| Qb <| w_sl 2 (pt b1) rfl <| w_sl 3 (pt b2) rfl <| w_sl 4 (pt b3) rfl <| w_sl 5 (errV 104 none) rfl <| XD.j1_ok (k := k) (hle.trans (e21.trans e25)) he (h19.mono e25) h27
  ·
   refine QE rfl (df c13) <| QF <| w_sl 2 (pt b1) rfl <| w_sl 3 (pt b2) rfl <| w_sl 4 (pt b3) rfl <| w_sl 5 (errV 104 none) rfl <| XD.j1_ok (k := k) hle he h0_n h1_d
noncomputable def Yg.C : Code := (Tryz.f18.body).getD .skip
def Yg.out (r : Qf × (Option Int)) (H : Hp) (v : Value) : Prop := ∃ v0 v1, v = .tuple ⟨[(Qc r.1 v0 v1), errV 104 r.2]⟩ ∧ Ro kU32 H v0 r.1.f_n.f_w ∧ Ro kU32 H v1 r.1.f_d.f_w
noncomputable def Yg.f (k : Nat) (n bits : Int) : Option (Qf × (Option Int)) := if ((decide (bits < 0)) || (decide (1024 < bits))) = true then (some (⟨⟨false, []⟩, ⟨false, []⟩⟩, some 1)) else ((XK.f k 1).bind fun y5 => (Xt.f k y5 bits).bind fun y11 => if y11.2.isSome = true then (some (⟨⟨false, []⟩, ⟨false, []⟩⟩, y11.2)) else ((XK.f k n).bind fun y19 => (XD.f k y19 y11.1).bind fun y25 => some (y25.1, y25.2)))
theorem Yg.mono : ∀ k y0 y1, LeO (Yg.f k y0 y1) (Yg.f (k + 1) y0 y1) := fun k _ _ => by unfold Yg.f; exact (LeO.ite (LeO.refl _) (LeO.bind (XK.mono k _) fun _ => LeO.bind (Xt.mono k _ _) fun _ => LeO.ite (LeO.refl _) (LeO.bind (XK.mono k _) fun _ => LeO.bind (XD.mono k _ _) fun _ => LeO.refl _)))
theorem Yg.calls (k : Nat) {H : Hp} {L : Items} {n bits : Int} {r : Qf × (Option Int)} (he : Yg.f k n bits = some r) : Ct Tryz.prog 18 ⟨[.int .i64 n, .int .i64 bits]⟩ H L (cR H L (Yg.out r)) := by
 refine XN (O := Yg.out r) ?_
 have hle : H.le H := .refl _
 unfold Yg.f at he
 refine QV (args := [_, _]) fn_18 rfl nt_18 rfl <| wR rfl <| wN zr26 rfl rfl fun b1 => wA (errV 104 none) rfl rfl <| wE <| wR rfl <| wM (.int .i64 bits) rfl rfl <| w_d rfl (XW rfl rfl) <| wM (.bool (decide (bits < 0))) rfl rfl ?_
 refine w_g (g := !(decide (bits < 0))) rfl rfl rfl wn_f (fun g2 => QT (v := .int .i64 bits) rfl) <| w_g (g := !(decide (bits < 0))) rfl rfl rfl wn_f (fun g3 => YV (cvt g3) rfl) <| w_d rfl (d_or' (b := (decide (bits < 0))) (p := (decide (1024 < bits))) rfl rfl rfl) <| Qb ?_
 rcases its he with ⟨c4, he⟩ | ⟨c4, he⟩
 ·
  refine QD rfl c4 <| wR rfl <| w_d rfl (XE (cs' := z0c) Tryz.underlying26 zr26 rfl (by kernel_rfl) (parts := []) rfl .nil) <| w_d rfl (Zf (v := .int .i64 1) Tryz.underlying104 rfl rfl) <| wS (.agg ⟨z0c⟩) sz26 rfl rfl rfl rfl rfl (oc rfl (oc rfl (oc rfl (oc rfl oz)))) .here u4 <| wA (errV 104 (some 1)) rfl rfl <| Qb ?_
  obtain rfl := sj he
  refine Ql fn_18 rs_18 (.box (v := .agg ⟨z0c⟩) rfl ty26 rfl rfl .here rfl (.tmp (v := errV 104 (some 1)) rfl .nil)) <| ⟨⟨[_], rfl⟩, hle, ⟨.slice none 0 0, .slice none 0 0, rfl, (Xj _ _), (Xj _ _)⟩⟩
 ·
  refine QE rfl (Bool.eq_false_iff.2 c4) <| QF <| wR rfl <| bK he fun y5 hy6 he => w_a rfl (Qm co71 (vs := [.int .i64 1]) rfl (XK.calls k hy6)) ?_
  rintro _ H7 _ ⟨rfl, e8, v9, rfl, h10⟩
  refine wM (.int .i64 bits) rfl rfl <| bK he fun y11 hy12 he => w_a rfl (Qm co72 (vs := [(Qd y5 v9), .int .i64 bits]) rfl (Xt.calls k (a := y5) hy12 h10)) ?_
  rintro _ H13 _ ⟨rfl, e14, v15, rfl, h16⟩
  refine wM (.tuple ⟨[(Qd y11.1 v15), errV 104 y11.2]⟩) rfl rfl <| w_d rfl (Q5 rfl rfl) <| w_d rfl (Q5 rfl rfl) <| wN zr24 rfl rfl fun b17 => wS (Qd y11.1 v15) sz24 rfl rfl rfl rfl rfl (XF h16) .here u2 <| wA (errV 104 y11.2) rfl rfl <| wE <| wR rfl <| wM (errV 104 y11.2) rfl rfl <| w_d rfl (Yj (e := y11.2) Tryz.underlying30 rfl) ?_
  refine Qb ?_
  rcases its he with ⟨c18, he⟩ | ⟨c18, he⟩
  ·
   refine QD rfl c18 <| wR rfl <| w_d rfl (XE (cs' := z0c) Tryz.underlying26 zr26 rfl (by kernel_rfl) (parts := []) rfl .nil) <| wM (errV 104 y11.2) rfl rfl <| wS (.agg ⟨z0c⟩) sz26 rfl rfl rfl rfl rfl (oc rfl (oc rfl (oc rfl (oc rfl oz)))) .h1 u4 <| wA (errV 104 y11.2) rfl rfl <| Qb ?_
   obtain rfl := sj he
   refine Ql fn_18 rs_18 (.box (v := .agg ⟨z0c⟩) rfl ty26 rfl rfl .h1 rfl (.tmp (v := errV 104 y11.2) rfl .nil)) <| ⟨⟨[_, _], rfl⟩, hle.trans (e8.trans e14), ⟨.slice none 0 0, .slice none 0 0, rfl, (Xj _ _), (Xj _ _)⟩⟩
  ·
   refine QE rfl (Bool.eq_false_iff.2 c18) <| QF <| QX <| bK he fun y19 hy20 he => bK he fun y25 hy26 he => XC (p := 6) (tl := [6, 7]) [[], [(0, some 26)], [], [(1, some 27), (2, some 28)], [(3, some 29)], [(3, some 29)]] [some 26, some 27, some 28, some 29, some 30, some 31] (fctF (.is (.int .i64 n) :: .of (XK.out y19) (XK.out_mono _) :: .is (Qd y11.1 v15) :: .of (XD.out y25) (XD.out_mono _) :: .of (fun H v => ∃ v33 v35, v = (Qc y25.1 v33 v35) ∧ Ro kU32 H v33 y25.1.f_n.f_w ∧ Ro kU32 H v35 y25.1.f_d.f_w) (by rintro _ _ _ hle ⟨v33, v35, rfl, h34, h36⟩; exact ⟨v33, v35, rfl, h34.mono hle, h36.mono hle⟩) :: .is (errV 104 y25.2) :: [])) (fun m_ => bx b17 (QO y11.1 v15) 24 :: bx b1 z0c 26 :: L) (fun _ => none) mixed (by kernel_rfl) (by kernel_rfl) rfl (Xq (by kernel_rfl)) ⟨(fun H' m_ hH hm_ hu_ => dn <| s_d (m_ 0) rfl (QT (v := .int .i64 n) rfl) (by exact rfl) rfl), (by rintro H' m_ hH hm_ hu_ _ rfl; exact dn <| s_k (m_ 1) rfl (Qm co71 (vs := [.int .i64 n]) rfl (XK.calls k hy20)) rfl (by rintro v_ H_ _ ⟨rfl, e_, h_⟩; exact ⟨rfl, e_, h_⟩)), (fun H' m_ hH hm_ hu_ => dn <| s_d (m_ 2) rfl (QN (v := (Qd y11.1 v15)) ty24 rfl .here rfl rfl rfl rfl) (by exact rfl) rfl), (by rintro H' m_ hH hm_ hu_ _ ⟨v23, rfl, h24⟩ _ rfl; exact dn <| s_k (m_ 3) rfl (Qm co73 (vs := [(Qd y19 v23), (Qd y11.1 v15)]) rfl (XD.calls k (n := y19) (d := y11.1) hy26 h24 (h16.mono hH))) rfl (by rintro v_ H_ _ ⟨rfl, e_, h_⟩; exact ⟨rfl, e_, h_⟩)), (by rintro H' m_ hH hm_ hu_ _ ⟨v29, v31, rfl, h30, h32⟩; exact dn <| s_d (m_ 4) rfl (Q5 rfl rfl) (by exact ⟨v29, v31, rfl, h30, h32⟩) rfl), (by rintro H' m_ hH hm_ hu_ _ ⟨v29, v31, rfl, h30, h32⟩; exact dn <| s_d (m_ 5) rfl (Q5 rfl rfl) (by exact rfl) rfl), trivial⟩ ?_
   intro H37 e38
   rintro _ _ rfl _ _ ⟨v23, rfl, h24⟩ _ _ rfl _ _ ⟨v29, v31, rfl, h30, h32⟩ _ _ ⟨v33, v35, rfl, h34, h36⟩ _ _ rfl
   refine wS (Qc y25.1 v33 v35) sz26 rfl rfl rfl rfl rfl (XP h34 h36) .h1 u4 <| wA (errV 104 y25.2) rfl rfl <| Qb ?_
   obtain rfl := sj he
   refine Ql fn_18 rs_18 (.box (v := (Qc y25.1 v33 v35)) rfl ty26 rfl rfl .h1 rfl (.tmp (v := errV 104 y25.2) rfl .nil)) <| ⟨⟨[_, _], rfl⟩, hle.trans ((e8.trans e14).trans e38), ⟨v33, v35, rfl, h34, h36⟩⟩
noncomputable def Xf.C : Code := (Tryz.f92.body).getD .skip
def Xf.out (r : (List Qf) × (Option Int)) (H : Hp) (v : Value) : Prop := ∃ v0, v = .tuple ⟨[v0, errV 104 r.2]⟩ ∧ Ro Xc H v0 r.1
abbrev Xf.R (H0 : Hp) (L : Items) (r : (List Qf) × (Option Int)) := fR H0 L (Xf.out r)
structure Xf.Hs where
 l0 : (List Qf) → (Option Int) → (List Qf) → (List Int) → Int → Int → Option ((List Qf) × (Option Int))
noncomputable def Xf.b0 (k : Nat) (h : Xf.Hs) (t4 : List Qf) (t5 : Option Int) (out : List Qf) (t21 : List Int) (t22 t23 : Int) : Option ((List Qf) × (Option Int)) := if t23 < t22 then (if (0 : Int) ≤ t23 ∧ t23 < (t21.length : Int) then ((Yg.f k (rd t21 t23) 20).bind fun y10 => if y10.2.isSome = true then (some ([], y10.2)) else (if out.length + 1 ≤ 2199023255424 then (h.l0 t4 t5 (out ++ [y10.1]) t21 t22 (w64 (t23 + 1))) else none)) else none) else (some (out, none))
noncomputable def Xf.hs : Nat → Xf.Hs
 | 0 => ⟨fun _ _ _ _ _ _ => none⟩
 | k + 1 => ⟨fun x0 x1 x2 x3 x4 x5 => Xf.b0 k (Xf.hs k) x0 x1 x2 x3 x4 x5⟩
noncomputable def Xf.f (k : Nat) (m : X9) (i : Int) : Option ((List Qf) × (Option Int)) := (fun h : Xf.Hs => if (0 : Int) ≤ w64 (i * m.f_Cols) ∧ (w64 (i * m.f_Cols) : Int) ≤ w64 ((w64 (i + 1)) * m.f_Cols) ∧ w64 ((w64 (i + 1)) * m.f_Cols) ≤ (36 : Int) then (h.l0 [] none [] (cut (T73.toL m.f_A) (w64 (i * m.f_Cols)) (w64 ((w64 (i + 1)) * m.f_Cols))) ((cut (T73.toL m.f_A) (w64 (i * m.f_Cols)) (w64 ((w64 (i + 1)) * m.f_Cols))).length : Int) 0) else none) (Xf.hs k)
structure Xf.LE (h h' : Xf.Hs) : Prop where
 l0 : ∀ y0 y1 y2 y3 y4 y5, LeO (h.l0 y0 y1 y2 y3 y4 y5) (h'.l0 y0 y1 y2 y3 y4 y5)
theorem Xf.b0_mono {k : Nat} {h h' : Xf.Hs} (hl : Xf.LE h h') : ∀ y0 y1 y2 y3 y4 y5, LeO (Xf.b0 k h y0 y1 y2 y3 y4 y5) (Xf.b0 (k + 1) h' y0 y1 y2 y3 y4 y5) := fun _ _ _ _ _ _ => (LeO.ite (LeO.ite (LeO.bind (Yg.mono k _ _) fun _ => LeO.ite (LeO.refl _) (LeO.ite (hl.l0 _ _ _ _ _ _) (LeO.refl _))) (LeO.refl _)) (LeO.refl _))
theorem Xf.hs_mono : ∀ k, Xf.LE (Xf.hs k) (Xf.hs (k + 1))
 | 0 => ⟨fun _ _ _ _ _ _ => LeO.none _⟩
 | k + 1 => ⟨Xf.b0_mono (k := k) (Xf.hs_mono k)⟩
theorem Xf.mono : ∀ k y0 y1, LeO (Xf.f k y0 y1) (Xf.f (k + 1) y0 y1) := fun k _ _ => have hl := Xf.hs_mono k; by unfold Xf.f; exact (LeO.ite (hl.l0 _ _ _ _ _ _) (LeO.refl _))
noncomputable def Xf.Kl0 : List Item := .code (lopB (blkB (seqR (seqL (seqR (seqR Xf.C)))))) :: .inLoop (lopB (blkB (seqR (seqL (seqR (seqR Xf.C)))))) :: .inBlock 0 :: .code (seqR (seqR (seqR Xf.C))) :: []
structure Xf.OK (h : Xf.Hs) : Prop where
 l0 : ∀ {H0 H : Hp} {L : Items} {r : (List Qf) × (Option Int)} {jk_ : Nat → Value} {t4 : List Qf} {t5 : Option Int} {out : List Qf} {t21 : List Int} {t22 : Int} {t23 : Int} {v_t4 : Value} {v_out : Value} {v_t21 : Value} {i_out : Item'} (_ : H0.le H) (_he : h.l0 t4 t5 out t21 t22 t23 = some r) (_h_t4 : Ro Xc H v_t4 t4) (_h_out : Sl Xc H 26 i_out v_out out) (_h_t21 : Ro kI64 H v_t21 t21), Wp Tryz.prog 92 41 Xf.Kl0 (upd (upd (upd (upd (upd (upd jk_ 4 (v_t4)) 5 (errV 104 t5)) 6 (v_out)) 21 (v_t21)) 22 (.int .i64 t22)) 23 (.int .i64 t23)) H (i_out :: L) (Xf.R H0 L r)
theorem Xf.b0_ok {k : Nat} {h : Xf.Hs} (hh : Xf.OK h) {H0 H : Hp} {L : Items} {r : (List Qf) × (Option Int)} {jk_ : Nat → Value} {t4 : List Qf} {t5 : Option Int} {out : List Qf} {t21 : List Int} {t22 t23 : Int} {v_t4 v_out v_t21 : Value} {i_out : Item'} (hle : H0.le H) (he : Xf.b0 k h t4 t5 out t21 t22 t23 = some r) (h_t4 : Ro Xc H v_t4 t4) (h_out : Sl Xc H 26 i_out v_out out) (h_t21 : Ro kI64 H v_t21 t21) : Wp Tryz.prog 92 41 Xf.Kl0 (upd (upd (upd (upd (upd (upd jk_ 4 (v_t4)) 5 (errV 104 t5)) 6 (v_out)) 21 (v_t21)) 22 (.int .i64 t22)) 23 (.int .i64 t23)) H (i_out :: L) (Xf.R H0 L r) := by
 unfold Xf.b0 at he
 unfold Xf.Kl0
 refine wR rfl <| w_d rfl (XW rfl rfl) <| wE ?_
 rcases its he with ⟨c8, he⟩ | ⟨c8, he⟩
 ·
  refine QD rfl (dt c8) <| QF <| QX <| Q2 <| wR rfl <| rK he fun c9 he => w_d rfl (XA (sz := 1) Tryz.underlying72 sz2 rfl h_t21.src rfl c9) <| w_d rfl (XR ty2 rfl h_t21.src c9) <| wA (.int .i64 (rd t21 t23)) rfl rfl <| wE ?_
  refine QL rfl <| wM (.int .i64 (rd t21 t23)) rfl rfl <| bK he fun y10 hy11 he => w_a rfl (Qm co18 (vs := [.int .i64 (rd t21 t23), .int .i64 20]) rfl (Yg.calls k hy11)) ?_
  rintro _ H12 _ ⟨rfl, e13, v14, v16, rfl, h15, h17⟩
  refine wM (.tuple ⟨[(Qc y10.1 v14 v16), errV 104 y10.2]⟩) rfl rfl <| w_d rfl (Q5 rfl rfl) <| w_d rfl (Q5 rfl rfl) <| wN zr26 rfl rfl fun b18 => wS (Qc y10.1 v14 v16) sz26 rfl rfl rfl rfl rfl (XP h15 h17) .here u4 <| wA (errV 104 y10.2) rfl rfl <| wE <| wR rfl <| wM (errV 104 y10.2) rfl rfl <| w_d rfl (Yj (e := y10.2) Tryz.underlying30 rfl) ?_
  refine Qb ?_
  rcases its he with ⟨c19, he⟩ | ⟨c19, he⟩
  ·
   refine QD rfl c19 <| wR rfl <| wM (errV 104 y10.2) rfl rfl <| wA (.slice none 0 0) rfl rfl <| wA (errV 104 y10.2) rfl rfl <| Qb ?_
   obtain rfl := sj he
   refine Ql fn_92 rs_92 (.tmp (v := .slice none 0 0) rfl (.tmp (v := errV 104 y10.2) rfl .nil)) <| ⟨⟨[_, _], rfl⟩, hle.trans e13, ⟨.slice none 0 0, rfl, (Xj _ _)⟩⟩
  ·
   refine QE rfl (Bool.eq_false_iff.2 c19) <| QF <| QL rfl <| wM v_out rfl rfl <| wL (Qc y10.1 v14 v16) ty26 rfl rfl .here rfl rfl <| w_a rfl (o_buildSlice' (kd := Xc) (css := [(Xa y10.1 v14 v16)]) (xs := [y10.1]) (parts := [(0, (Qc y10.1 v14 v16))]) Tryz.underlying81 ti26 rfl ⟨_, _, rfl, rfl, rfl⟩ ⟨(Z4 (x := y10.1) h15 h17), trivial⟩ rfl (by decide)) ?_
   rintro v20 _ _ ⟨i21, rfl, rfl, h22⟩
   refine rK he fun c23 he => w_a rfl (o_append' (kd := Xc) (F := fun z_ => i21 :: bx b18 (Xa y10.1 v14 v16) 26 :: z_ :: L) Tryz.underlying81 Tryz.underlying81 ti26 rfl (by first | omega | (simp only [List.nil_append, List.length_cons, List.length_nil]; omega)) rfl rfl (h_out.mono e13) (h22.src .here) (fun _ => .h2)) ?_
   rintro v24 _ _ ⟨i25, rfl, rfl, h26⟩
   refine wA v24 rfl rfl <| Qb <| Xw <| QL rfl <| w_d rfl (XQ (c := w64 (t23 + 1)) rfl rfl rfl) <| wM (.int .i64 (w64 (t23 + 1))) rfl rfl <| Qb <| XG <| Yu .h1 <| Yu .here <| w_sl 4 (v_t4) rfl <| w_sl 5 (errV 104 t5) rfl ?_
   refine w_sl 6 (v24) rfl <| w_sl 21 (v_t21) rfl <| w_sl 22 (.int .i64 t22) rfl <| w_sl 23 (.int .i64 (w64 (t23 + 1))) rfl <| hh.l0 (hle.trans e13) he (h_t4.mono e13) h26 (h_t21.mono e13)
 ·
  refine QE rfl (df c8) <| X3 rfl <| wR rfl <| wM v_out rfl rfl <| wA v_out rfl rfl <| wA (errV 104 none) rfl rfl <| Qb <| Yx h_out .here ?_
  intro H27 e28 h29
  obtain rfl := sj he
  refine Ql fn_92 rs_92 (.tmp (v := v_out) rfl (.tmp (v := errV 104 none) rfl .nil)) <| ⟨⟨[_], rfl⟩, hle.trans e28, ⟨v_out, rfl, h29⟩⟩
theorem Xf.ok : ∀ k, Xf.OK (Xf.hs k)
 | 0 => ⟨(by intros; exact nomatch (show none = some _ from by assumption))⟩
 | k + 1 => ⟨Xf.b0_ok (k := k) (Xf.ok k)⟩
theorem Xf.calls (k : Nat) {H : Hp} {L : Items} {m : X9} {i : Int} {r : (List Qf) × (Option Int)} (he : Xf.f k m i = some r) : Ct Tryz.prog 92 ⟨[.agg ⟨(.int .i64 m.f_Rows :: .int .i64 m.f_Cols :: .int .i64 m.f_A.e0 :: .int .i64 m.f_A.e1 :: .int .i64 m.f_A.e2 :: .int .i64 m.f_A.e3 :: .int .i64 m.f_A.e4 :: .int .i64 m.f_A.e5 :: .int .i64 m.f_A.e6 :: .int .i64 m.f_A.e7 :: .int .i64 m.f_A.e8 :: .int .i64 m.f_A.e9 :: .int .i64 m.f_A.e10 :: .int .i64 m.f_A.e11 :: .int .i64 m.f_A.e12 :: .int .i64 m.f_A.e13 :: .int .i64 m.f_A.e14 :: .int .i64 m.f_A.e15 :: .int .i64 m.f_A.e16 :: .int .i64 m.f_A.e17 :: .int .i64 m.f_A.e18 :: .int .i64 m.f_A.e19 :: .int .i64 m.f_A.e20 :: .int .i64 m.f_A.e21 :: .int .i64 m.f_A.e22 :: .int .i64 m.f_A.e23 :: .int .i64 m.f_A.e24 :: .int .i64 m.f_A.e25 :: .int .i64 m.f_A.e26 :: .int .i64 m.f_A.e27 :: .int .i64 m.f_A.e28 :: .int .i64 m.f_A.e29 :: .int .i64 m.f_A.e30 :: .int .i64 m.f_A.e31 :: .int .i64 m.f_A.e32 :: .int .i64 m.f_A.e33 :: .int .i64 m.f_A.e34 :: .int .i64 m.f_A.e35 :: [])⟩, .int .i64 i]⟩ H L (cR H L (Xf.out r)) := by
 refine XN (O := Xf.out r) ?_
 have hle : H.le H := .refl _
 have hh := Xf.ok k
 unfold Xf.f at he
 refine QV (args := [_, _]) fn_92 rfl nt_92 rfl <| wR rfl <| wB (.agg ⟨(.int .i64 m.f_Rows :: .int .i64 m.f_Cols :: .int .i64 m.f_A.e0 :: .int .i64 m.f_A.e1 :: .int .i64 m.f_A.e2 :: .int .i64 m.f_A.e3 :: .int .i64 m.f_A.e4 :: .int .i64 m.f_A.e5 :: .int .i64 m.f_A.e6 :: .int .i64 m.f_A.e7 :: .int .i64 m.f_A.e8 :: .int .i64 m.f_A.e9 :: .int .i64 m.f_A.e10 :: .int .i64 m.f_A.e11 :: .int .i64 m.f_A.e12 :: .int .i64 m.f_A.e13 :: .int .i64 m.f_A.e14 :: .int .i64 m.f_A.e15 :: .int .i64 m.f_A.e16 :: .int .i64 m.f_A.e17 :: .int .i64 m.f_A.e18 :: .int .i64 m.f_A.e19 :: .int .i64 m.f_A.e20 :: .int .i64 m.f_A.e21 :: .int .i64 m.f_A.e22 :: .int .i64 m.f_A.e23 :: .int .i64 m.f_A.e24 :: .int .i64 m.f_A.e25 :: .int .i64 m.f_A.e26 :: .int .i64 m.f_A.e27 :: .int .i64 m.f_A.e28 :: .int .i64 m.f_A.e29 :: .int .i64 m.f_A.e30 :: .int .i64 m.f_A.e31 :: .int .i64 m.f_A.e32 :: .int .i64 m.f_A.e33 :: .int .i64 m.f_A.e34 :: .int .i64 m.f_A.e35 :: [])⟩) rfl rfl rfl <| fun b1 => wA (.slice none 0 0) rfl rfl <| wA (errV 104 none) rfl rfl <| wQ rfl <| wA (.slice none 0 0) rfl rfl <| wE ?_
 refine wR rfl <| w_d rfl (Xi (o' := 2) Tryz.underlying75 rfl sz73 rfl rfl rfl) <| wM (.int .i64 i) rfl rfl <| w_d rfl (Xi (o' := 1) Tryz.underlying75 rfl sz3 rfl rfl rfl) <| wL (.int .i64 m.f_Cols) ty3 rfl rfl .here rfl rfl <| w_d rfl (JD (c := w64 (i * m.f_Cols)) rfl rfl rfl) <| wM (.int .i64 i) rfl rfl <| w_d rfl (XQ (c := w64 (i + 1)) rfl rfl rfl) <| w_d rfl (Xi (o' := 1) Tryz.underlying75 rfl sz3 rfl rfl rfl) <| wL (.int .i64 m.f_Cols) ty3 rfl rfl .here rfl rfl <| w_d rfl (JD (c := w64 ((w64 (i + 1)) * m.f_Cols)) rfl rfl rfl) ?_
 refine rK he fun c2 he => UM .here ?_
 intro H3 e4 h5
 have h6 := Oo (L := L) h5
 have h7 := OO (Vb (xs := T73.toL m.f_A) h5 (m := 36) (off := 2) rfl rfl) c2
 refine w_d rfl (Nn (e := 2) (sz := 1) Tryz.underlying73 sz2 rfl (.inr ⟨_, _, rfl, rfl⟩) (.inr ⟨_, _, rfl, rfl⟩) c2) <| w_d rfl (Xo Tryz.underlying72 rfl h7.src) <| wM (.int .i64 0) rfl rfl <| Qb <| Q2 <| X5 <| YG <| Yu .h1 <| w_sl 4 (.slice none 0 0) rfl <| w_sl 5 (errV 104 none) rfl <| w_sl 6 (.slice none 0 0) rfl <| w_sl 21 (cutv 1 (asl b1 2 36) (w64 (i * m.f_Cols)) (w64 ((w64 (i + 1)) * m.f_Cols))) rfl ?_
 refine w_sl 22 (.int .i64 ((cut (T73.toL m.f_A) (w64 (i * m.f_Cols)) (w64 ((w64 (i + 1)) * m.f_Cols))).length : Int)) rfl <| w_sl 23 (.int .i64 0) rfl <| hh.l0 (hle.trans e4) he (Xj _ _) (ZW _ _ _) h7
noncomputable def QA.C : Code := (Tryz.f78.body).getD .skip
def QA.out (r : Qv) (H : Hp) (v : Value) : Prop := ∃ v0, v = (Qd r v0) ∧ Ro kU32 H v0 r.f_w
theorem QA.out_mono (r : Qv) {H H' : Hp} {v : Value} (hle : H.le H') (h : QA.out r H v) : QA.out r H' v := by
 obtain ⟨v0, rfl, h0⟩ := h; exact ⟨v0, rfl, h0.mono hle⟩
noncomputable def QA.f (k : Nat) (a : Qf) : Option Qv := (Xr.f k a.f_d).bind fun y3 => if y3 = 0 then ((XK.f k 1).bind fun y8 => some (y8)) else (some (a.f_d))
theorem QA.mono : ∀ k y0, LeO (QA.f k y0) (QA.f (k + 1) y0) := fun k _ => by unfold QA.f; exact (LeO.bind (Xr.mono k _) fun _ => LeO.ite (LeO.bind (XK.mono k _) fun _ => LeO.refl _) (LeO.refl _))
theorem QA.calls (k : Nat) {H : Hp} {L : Items} {a : Qf} {v0_a v1_a : Value} {r : Qv} (he : QA.f k a = some r) (h0_a : Ro kU32 H v0_a a.f_n.f_w) (h1_a : Ro kU32 H v1_a a.f_d.f_w) : Ct Tryz.prog 78 ⟨[(Qc a v0_a v1_a)]⟩ H L (cR H L (QA.out r)) := by
 refine XN (O := QA.out r) ?_
 have hle : H.le H := .refl _
 unfold QA.f at he
 refine QV (args := [_]) fn_78 rfl nt_78 rfl <| wR rfl <| wB (Qc a v0_a v1_a) rfl rfl rfl <| fun b1 => wN zr24 rfl rfl fun b2 => wE <| wR rfl <| w_d rfl (Xi (o' := 2) Tryz.underlying26 rfl sz24 rfl rfl rfl) <| wL (Qd a.f_d v1_a) ty24 rfl rfl .h1 rfl rfl <| bK he fun y3 hy4 he => ?_
 refine w_d rfl (Xx (Qm co84 (vs := [(Qd a.f_d v1_a)]) rfl (Xr.calls k (a := a.f_d) hy4 h1_a))) <| w_d rfl (YY rfl rfl) <| Qb ?_
 rcases its he with ⟨c7, he⟩ | ⟨c7, he⟩
 ·
  refine QD rfl (dt c7) <| wR rfl <| bK he fun y8 hy9 he => w_a rfl (Qm co71 (vs := [.int .i64 1]) rfl (XK.calls k hy9)) ?_
  rintro _ H10 _ ⟨rfl, e11, v12, rfl, h13⟩
  refine wS (Qd y8 v12) sz24 rfl rfl rfl rfl rfl (XF h13) .here u2 <| Qb ?_
  obtain rfl := sj he
  refine Ql fn_78 rs_78 (.box (v := (Qd y8 v12)) rfl ty24 rfl rfl .here rfl .nil) <| ⟨⟨[_, _], rfl⟩, hle.trans e11, ⟨v12, rfl, h13⟩⟩
 ·
  refine QE rfl (df c7) <| QF <| wR rfl <| w_d rfl (Xi (o' := 2) Tryz.underlying26 rfl sz24 rfl rfl rfl) <| wL (Qd a.f_d v1_a) ty24 rfl rfl .h1 rfl rfl <| wS (Qd a.f_d v1_a) sz24 rfl rfl rfl rfl rfl (XF h1_a) .here u2 <| Qb ?_
  obtain rfl := sj he
  refine Ql fn_78 rs_78 (.box (v := (Qd a.f_d v1_a)) rfl ty24 rfl rfl .here rfl .nil) <| ⟨⟨[_, _], rfl⟩, hle, ⟨v1_a, rfl, h1_a⟩⟩
noncomputable def X0.C : Code := (Tryz.f83.body).getD .skip
def X0.out (r : Qv × Qv) (H : Hp) (v : Value) : Prop := ∃ v0 v1, v = .tuple ⟨[(Qd r.1 v0), (Qd r.2 v1)]⟩ ∧ Ro kU32 H v0 r.1.f_w ∧ Ro kU32 H v1 r.2.f_w
noncomputable def X0.f (k : Nat) (a : Qf) : Option (Qv × Qv) := (QA.f k a).bind fun y4 => some (a.f_n, y4)
theorem X0.mono : ∀ k y0, LeO (X0.f k y0) (X0.f (k + 1) y0) := fun k _ => by unfold X0.f; exact (LeO.bind (QA.mono k _) fun _ => LeO.refl _)
theorem X0.calls (k : Nat) {H : Hp} {L : Items} {a : Qf} {v0_a v1_a : Value} {r : Qv × Qv} (he : X0.f k a = some r) (h0_a : Ro kU32 H v0_a a.f_n.f_w) (h1_a : Ro kU32 H v1_a a.f_d.f_w) : Ct Tryz.prog 83 ⟨[(Qc a v0_a v1_a)]⟩ H L (cR H L (X0.out r)) := by
 refine XN (O := X0.out r) ?_
 have hle : H.le H := .refl _
 unfold X0.f at he
 refine QV (args := [_]) fn_83 rfl nt_83 rfl <| wR rfl <| wB (Qc a v0_a v1_a) rfl rfl rfl <| fun b1 => wN zr24 rfl rfl fun b2 => wN zr24 rfl rfl fun b3 => wE <| bK he fun y4 hy5 he => XC (p := 4) (tl := [4, 5]) [[], [(0, some 4)], [], [(2, some 6)]] [some 4, some 5, some 6, some 7] (fctF (.is (pt b1) :: .is (Qd a.f_n v0_a) :: .is (Qc a v0_a v1_a) :: .of (QA.out y4) (QA.out_mono _) :: [])) (fun m_ => bx b3 [.bool false, .slice none 0 0] 24 :: bx b2 [.bool false, .slice none 0 0] 24 :: bx b1 (Xa a v0_a v1_a) 26 :: L) (fun _ => none) mixed (by kernel_rfl) (by kernel_rfl) rfl (Xq (by kernel_rfl)) ⟨(fun H' m_ hH hm_ hu_ => dn <| s_d (m_ 0) rfl (Xi (o' := 0) Tryz.underlying26 rfl sz24 rfl rfl rfl) (by exact rfl) rfl), (by rintro H' m_ hH hm_ hu_ _ rfl; exact dn <| s_d (m_ 1) rfl (QN (v := (Qd a.f_n v0_a)) ty24 rfl .h2 rfl rfl rfl rfl) (by exact rfl) rfl), (fun H' m_ hH hm_ hu_ => dn <| s_d (m_ 2) rfl (QN (v := (Qc a v0_a v1_a)) ty26 rfl .h2 rfl rfl rfl rfl) (by exact rfl) rfl), (by rintro H' m_ hH hm_ hu_ _ rfl; exact dn <| s_k (m_ 3) rfl (Qm co78 (vs := [(Qc a v0_a v1_a)]) rfl (QA.calls k (a := a) hy5 (h0_a.mono hH) (h1_a.mono hH))) rfl (by rintro v_ H_ _ ⟨rfl, e_, h_⟩; exact ⟨rfl, e_, h_⟩)), trivial⟩ ?_
 intro H10 e11
 rintro _ _ rfl _ _ rfl _ _ rfl _ _ ⟨v8, rfl, h9⟩
 refine wS (Qd a.f_n v0_a) sz24 rfl rfl rfl rfl rfl (XF h0_a) .h1 u2 <| wS (Qd y4 v8) sz24 rfl rfl rfl rfl rfl (XF h9) .here u2 <| Qb ?_
 obtain rfl := sj he
 refine Ql fn_83 rs_83 (.box (v := (Qd a.f_n v0_a)) rfl ty24 rfl rfl .h1 rfl (.box (v := (Qd y4 v8)) rfl ty24 rfl rfl .here rfl .nil)) <| ⟨⟨[_, _, _], rfl⟩, hle.trans e11, ⟨v0_a, v8, rfl, (h0_a.mono e11), h9⟩⟩
noncomputable def Yh.C : Code := (Tryz.f95.body).getD .skip
def Yh.out (r : Bool) (H : Hp) (v : Value) : Prop := v = .bool r
noncomputable def Yh.f (k : Nat) (a : Qf) : Option Bool := (X0.f k a).bind fun y2 => (Xr.f k y2.1).bind fun y12 => some (decide (y12 < 0))
theorem Yh.mono : ∀ k y0, LeO (Yh.f k y0) (Yh.f (k + 1) y0) := fun k _ => by unfold Yh.f; exact (LeO.bind (X0.mono k _) fun _ => LeO.bind (Xr.mono k _) fun _ => LeO.refl _)
theorem Yh.calls (k : Nat) {H : Hp} {L : Items} {a : Qf} {v0_a v1_a : Value} {r : Bool} (he : Yh.f k a = some r) (h0_a : Ro kU32 H v0_a a.f_n.f_w) (h1_a : Ro kU32 H v1_a a.f_d.f_w) : Ct Tryz.prog 95 ⟨[(Qc a v0_a v1_a)]⟩ H L (fun v H' L' => L = L' ∧ H = H' ∧ v = .bool r) := by
 refine Yp (O := Yh.out r) (fun _ _ h => h) ?_
 have hle : H.le H := .refl _
 unfold Yh.f at he
 refine QV (args := [_]) fn_95 rfl nt_95 rfl <| wR rfl <| wB (Qc a v0_a v1_a) rfl rfl rfl <| fun b1 => wA (.bool false) rfl rfl <| wQ rfl <| wL (Qc a v0_a v1_a) ty26 rfl rfl .here rfl rfl <| bK he fun y2 hy3 he => w_a rfl (Qm co83 (vs := [(Qc a v0_a v1_a)]) rfl (X0.calls k (a := a) hy3 h0_a h1_a)) ?_
 rintro _ H4 _ ⟨rfl, e5, v6, v8, rfl, h7, h9⟩
 refine wM (.tuple ⟨[(Qd y2.1 v6), (Qd y2.2 v8)]⟩) rfl rfl <| w_d rfl (Q5 rfl rfl) <| w_d rfl (Q5 rfl rfl) <| wN zr24 rfl rfl fun b10 => wN zr24 rfl rfl fun b11 => wS (Qd y2.1 v6) sz24 rfl rfl rfl rfl rfl (XF h7) .h1 u2 <| wS (Qd y2.2 v8) sz24 rfl rfl rfl rfl rfl (XF h9) .here u2 <| wQ rfl <| wL (Qd y2.1 v6) ty24 rfl rfl .h1 rfl rfl <| bK he fun y12 hy13 he => ?_
 refine w_d rfl (Xx (Qm co84 (vs := [(Qd y2.1 v6)]) rfl (Xr.calls k (a := y2.1) hy13 h7))) <| w_d rfl (XW rfl rfl) <| wA (.bool (decide (y12 < 0))) rfl rfl <| Qb ?_
 obtain rfl := sj he
 refine Ql fn_95 rs_95 (.tmp (v := .bool (decide (y12 < 0))) rfl .nil) <| ⟨⟨[_, _, _], rfl⟩, hle.trans e5, rfl⟩
end Go.Proofs.YtkccpkccdbfomaaGreatDoor.GBP

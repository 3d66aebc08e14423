/- printed by gen.py -/
import Derived.Test.YtkccpkccdbfomaaGreatDoorGSSx2
namespace Go.Proofs.YtkccpkccdbfomaaGreatDoor.GSS
open Go Go.RowKit Go.Proofs.YtkccpkccdbfomaaGreatDoorK Go.Proofs.YtkccpkccdbfomaaGreatDoor
set_option maxRecDepth 100000
set_option maxHeartbeats 2000000
set_option linter.unusedVariables false
set_option linter.unusedSimpArgs false
noncomputable def Xu.C : Code := (Tryz.f114.body).getD .skip
abbrev Xu.out (r : (List Int)) (H : Hp) (v : Value) : Prop := Ro kU32 H v r
abbrev Xu.R (H0 : Hp) (L : Items) (r : (List Int)) : Value → Hp → Items → Prop := fun v H' L' => (∃ p it, L' = p ++ it :: L ∧ Sl kU32 H' 167 it v r) ∧ H0.le H'
structure Xu.Hs where
 l0 : Int → (List Int) → Int → (List Int) → Int → Int → Option (List Int)
noncomputable def Xu.b0 (k : Nat) (h : Xu.Hs) (n : Int) (out : List Int) (carry : Int) (t14 : List Int) (t15 t16 : Int) : Option (List Int) := if t16 < t15 then (if (0 : Int) ≤ t16 ∧ t16 < (t14.length : Int) then (if 0 ≤ n then (if out.length + 1 ≤ 35184372088704 then (h.l0 n (out ++ [(ior .u64 ((((rd t14 t16) % 18446744073709551616) * 2 ^ shn .u64 n) % 18446744073709551616) ((carry) % 18446744073709551616)) % 4294967296]) (((ior .u64 ((((rd t14 t16) % 18446744073709551616) * 2 ^ shn .u64 n) % 18446744073709551616) ((carry) % 18446744073709551616)) / 4294967296) % 4294967296) t14 t15 (w64 (t16 + 1))) else none) else none) else none) else (if out.length + 1 ≤ 35184372088704 then (some (out ++ [carry])) else none)
noncomputable def Xu.hs : Nat → Xu.Hs
 | 0 => ⟨fun _ _ _ _ _ _ => none⟩
 | k + 1 => ⟨fun x0 x1 x2 x3 x4 x5 => Xu.b0 k (Xu.hs k) x0 x1 x2 x3 x4 x5⟩
noncomputable def Xu.f (k : Nat) (w : List Int) (n : Int) : Option (List Int) := (fun h : Xu.Hs => if 0 ≤ 0 ∧ 0 ≤ w64 ((w.length : Int) + 1) ∧ w64 ((w.length : Int) + 1) ≤ 70368744177664 then (h.l0 n (List.replicate (0 : Int).toNat (0 : Int)) 0 w (w.length : Int) 0) else none) (Xu.hs k)
structure Xu.LE (h h' : Xu.Hs) : Prop where
 l0 : ∀ y0 y1 y2 y3 y4 y5, LeO (h.l0 y0 y1 y2 y3 y4 y5) (h'.l0 y0 y1 y2 y3 y4 y5)
theorem Xu.b0_mono {k : Nat} {h h' : Xu.Hs} (hl : Xu.LE h h') : ∀ y0 y1 y2 y3 y4 y5, LeO (Xu.b0 k h y0 y1 y2 y3 y4 y5) (Xu.b0 (k + 1) h' y0 y1 y2 y3 y4 y5) := fun _ _ _ _ _ _ => (LeO.ite (LeO.ite (LeO.ite (LeO.ite (hl.l0 _ _ _ _ _ _) (LeO.refl _)) (LeO.refl _)) (LeO.refl _)) (LeO.ite (LeO.refl _) (LeO.refl _)))
theorem Xu.hs_mono : ∀ k, Xu.LE (Xu.hs k) (Xu.hs (k + 1))
 | 0 => ⟨fun _ _ _ _ _ _ => LeO.none _⟩
 | k + 1 => ⟨Xu.b0_mono (k := k) (Xu.hs_mono k)⟩
theorem Xu.mono : ∀ k y0 y1, LeO (Xu.f k y0 y1) (Xu.f (k + 1) y0 y1) := fun k _ _ => have hl := Xu.hs_mono k; by unfold Xu.f; exact (LeO.ite (hl.l0 _ _ _ _ _ _) (LeO.refl _))
noncomputable def Xu.Kl0 : List Item := .code (lopB (blkB (seqR (seqL (seqR (seqR (seqR Xu.C))))))) :: .inLoop (lopB (blkB (seqR (seqL (seqR (seqR (seqR Xu.C))))))) :: .inBlock 0 :: .code (seqR (seqR (seqR (seqR Xu.C)))) :: []
structure Xu.OK (h : Xu.Hs) : Prop where
 l0 : ∀ {H0 H : Hp} {L : Items} {r : (List Int)} {jk_ : Nat → Value} {n : Int} {out : List Int} {carry : Int} {t14 : List Int} {t15 : Int} {t16 : Int} {v_out : Value} {v_t14 : Value} {i_out : Item'} (_ : H0.le H) (_he : h.l0 n out carry t14 t15 t16 = some r) (_h_out : Sl kU32 H 167 i_out v_out out) (_h_t14 : Src kU32 H L v_t14 t14), Wp Tryz.prog 114 40 Xu.Kl0 (upd (upd (upd (upd (upd (upd (upd jk_ 1 (.int .i64 n)) 4 (.slice none 0 0)) 5 (v_out)) 6 (.int .u32 carry)) 14 (v_t14)) 15 (.int .i64 t15)) 16 (.int .i64 t16)) H (i_out :: L) (Xu.R H0 L r)
theorem Xu.b0_ok {k : Nat} {h : Xu.Hs} (hh : Xu.OK h) {H0 H : Hp} {L : Items} {r : (List Int)} {jk_ : Nat → Value} {n : Int} {out : List Int} {carry : Int} {t14 : List Int} {t15 t16 : Int} {v_out v_t14 : Value} {i_out : Item'} (hle : H0.le H) (he : Xu.b0 k h n out carry t14 t15 t16 = some r) (h_out : Sl kU32 H 167 i_out v_out out) (h_t14 : Src kU32 H L v_t14 t14) : Wp Tryz.prog 114 40 Xu.Kl0 (upd (upd (upd (upd (upd (upd (upd jk_ 1 (.int .i64 n)) 4 (.slice none 0 0)) 5 (v_out)) 6 (.int .u32 carry)) 14 (v_t14)) 15 (.int .i64 t15)) 16 (.int .i64 t16)) H (i_out :: L) (Xu.R H0 L r) := by
 unfold Xu.b0 at he
 unfold Xu.Kl0
 refine wR rfl <| w_d rfl (XO rfl rfl) <| wE ?_
 rcases its he with ⟨c5, he⟩ | ⟨c5, he⟩
 ·
  refine QB rfl (dt c5) <| QF <| QX <| Q8 <| wR rfl <| rK he fun c6 he => w_d rfl (XT (sz := 1) Tryz.underlying22 sz167 rfl h_t14.th rfl c6) <| w_d rfl (XX ty167 rfl h_t14.th c6) <| wA (.int .u32 (rd t14 t16)) rfl rfl <| wE ?_
  refine QH rfl <| wM (.int .u32 (rd t14 t16)) rfl rfl <| w_d rfl (Yd (c := (rd t14 t16) % 18446744073709551616) Tryz.underlying167 Tryz.underlying113 rfl rfl) <| wM (.int .i64 n) rfl rfl <| rK he fun c7 he => w_d rfl (G9 (c := (((rd t14 t16) % 18446744073709551616) * 2 ^ shn .u64 n) % 18446744073709551616) rfl rfl c7 rfl) <| wM (.int .u32 carry) rfl rfl <| w_d rfl (Yd (c := (carry) % 18446744073709551616) Tryz.underlying167 Tryz.underlying113 rfl rfl) <| w_d rfl (Md rfl rfl) <| wA (.int .u64 (ior .u64 ((((rd t14 t16) % 18446744073709551616) * 2 ^ shn .u64 n) % 18446744073709551616) ((carry) % 18446744073709551616))) rfl rfl <| wE ?_
  refine QH rfl <| wM v_out rfl rfl <| wM (.int .u64 (ior .u64 ((((rd t14 t16) % 18446744073709551616) * 2 ^ shn .u64 n) % 18446744073709551616) ((carry) % 18446744073709551616))) rfl rfl <| w_d rfl (Yd (c := (ior .u64 ((((rd t14 t16) % 18446744073709551616) * 2 ^ shn .u64 n) % 18446744073709551616) ((carry) % 18446744073709551616)) % 4294967296) Tryz.underlying113 Tryz.underlying167 rfl rfl) <| w_a rfl (o_buildSlice' (kd := kU32) (css := [[.int .u32 ((ior .u64 ((((rd t14 t16) % 18446744073709551616) * 2 ^ shn .u64 n) % 18446744073709551616) ((carry) % 18446744073709551616)) % 4294967296)]]) (xs := [(ior .u64 ((((rd t14 t16) % 18446744073709551616) * 2 ^ shn .u64 n) % 18446744073709551616) ((carry) % 18446744073709551616)) % 4294967296]) (parts := [(0, .int .u32 ((ior .u64 ((((rd t14 t16) % 18446744073709551616) * 2 ^ shn .u64 n) % 18446744073709551616) ((carry) % 18446744073709551616)) % 4294967296))]) Tryz.underlying22 ti167 rfl ⟨_, _, rfl, rfl, rfl⟩ ⟨rfl, trivial⟩ rfl (by decide)) ?_
  rintro v8 _ _ ⟨i9, rfl, rfl, h10⟩
  refine rK he fun c11 he => w_a rfl (o_append' (kd := kU32) (F := fun z_ => i9 :: z_ :: L) Tryz.underlying22 Tryz.underlying22 ti167 rfl (by first | omega | (simp only [List.nil_append, List.length_cons, List.length_nil]; omega)) rfl rfl h_out (h10.src .here) (fun _ => .h1)) ?_
  rintro v12 _ _ ⟨i13, rfl, rfl, h14⟩
  refine wA v12 rfl rfl <| Qc <| QH rfl <| wM (.int .u64 (ior .u64 ((((rd t14 t16) % 18446744073709551616) * 2 ^ shn .u64 n) % 18446744073709551616) ((carry) % 18446744073709551616))) rfl rfl <| w_d rfl (Ju (c := (ior .u64 ((((rd t14 t16) % 18446744073709551616) * 2 ^ shn .u64 n) % 18446744073709551616) ((carry) % 18446744073709551616)) / 4294967296) rfl rfl (by decide) rfl) <| w_d rfl (Yd (c := ((ior .u64 ((((rd t14 t16) % 18446744073709551616) * 2 ^ shn .u64 n) % 18446744073709551616) ((carry) % 18446744073709551616)) / 4294967296) % 4294967296) Tryz.underlying113 Tryz.underlying167 rfl rfl) <| wA (.int .u32 (((ior .u64 ((((rd t14 t16) % 18446744073709551616) * 2 ^ shn .u64 n) % 18446744073709551616) ((carry) % 18446744073709551616)) / 4294967296) % 4294967296)) rfl rfl <| Qc <| Xp <| QH rfl <| w_d rfl (XG (c := w64 (t16 + 1)) rfl rfl rfl) <| wM (.int .i64 (w64 (t16 + 1))) rfl rfl ?_
  refine Qc <| Xy <| Yw .here <| w_sl 1 (.int .i64 n) rfl <| w_sl 4 (.slice none 0 0) rfl <| w_sl 5 (v12) rfl <| w_sl 6 (.int .u32 (((ior .u64 ((((rd t14 t16) % 18446744073709551616) * 2 ^ shn .u64 n) % 18446744073709551616) ((carry) % 18446744073709551616)) / 4294967296) % 4294967296)) rfl <| w_sl 14 (v_t14) rfl <| w_sl 15 (.int .i64 t15) rfl <| w_sl 16 (.int .i64 (w64 (t16 + 1))) rfl <| hh.l0 hle he h14 h_t14
 ·
  refine QI rfl (df c5) <| Ya rfl <| wR rfl <| wM v_out rfl rfl <| wM (.int .u32 carry) rfl rfl <| w_a rfl (o_buildSlice' (kd := kU32) (css := [[.int .u32 carry]]) (xs := [carry]) (parts := [(0, .int .u32 carry)]) Tryz.underlying22 ti167 rfl ⟨_, _, rfl, rfl, rfl⟩ ⟨rfl, trivial⟩ rfl (by decide)) ?_
  rintro v15 _ _ ⟨i16, rfl, rfl, h17⟩
  refine rK he fun c18 he => w_a rfl (o_append' (kd := kU32) (F := fun z_ => i16 :: z_ :: L) Tryz.underlying22 Tryz.underlying22 ti167 rfl (by first | omega | (simp only [List.nil_append, List.length_cons, List.length_nil]; omega)) rfl rfl h_out (h17.src .here) (fun _ => .h1)) ?_
  rintro v19 _ _ ⟨i20, rfl, rfl, h21⟩
  refine wA v19 rfl rfl <| Qc ?_
  obtain rfl := sj he
  refine Yw .here <| Qn fn_114 rs_114 (.tmp (v := v19) rfl .nil) <| ⟨⟨[], _, rfl, h21⟩, hle⟩
theorem Xu.ok : ∀ k, Xu.OK (Xu.hs k)
 | 0 => ⟨(by intros; exact nomatch (show none = some _ from by assumption))⟩
 | k + 1 => ⟨Xu.b0_ok (k := k) (Xu.ok k)⟩
theorem Xu.calls (k : Nat) {H : Hp} {L : Items} {w : List Int} {n : Int} {v0_w : Value} {r : (List Int)} (he : Xu.f k w n = some r) (h0_w : Src kU32 H L v0_w w) : Ct Tryz.prog 114 ⟨[v0_w, .int .i64 n]⟩ H L (fun v H' L' => ∃ it, L' = it :: L ∧ H.le H' ∧ Sl kU32 H' 167 it v r) := by
 refine UT ?_
 have hle : H.le H := .refl _
 have hh := Xu.ok k
 unfold Xu.f at he
 refine QZ (args := [v0_w, .int .i64 n]) fn_114 rfl nt_114 rfl <| wR rfl <| wA (.slice none 0 0) rfl rfl <| wQ rfl <| wM v0_w rfl rfl <| w_d rfl (XL Tryz.underlying22 rfl h0_w) <| w_d rfl (XG (c := w64 ((w.length : Int) + 1)) rfl rfl rfl) <| rK he fun c1 he => w_a rfl (o_make' (kd := kU32) (z0 := 0) Tryz.underlying22 ti167 (zp167 _) rfl rfl (by omega) (by omega) (by omega)) ?_
 rintro v2 _ _ ⟨i3, rfl, rfl, h4⟩
 refine wA v2 rfl rfl <| wQ rfl <| wA (.int .u32 0) rfl rfl <| wE <| wR rfl <| wM v0_w rfl rfl <| w_d rfl (XL Tryz.underlying22 rfl h0_w.th) <| wM (.int .i64 0) rfl rfl ?_
 refine Qc <| Q8 <| Ye <| w_sl 1 (.int .i64 n) rfl <| w_sl 4 (.slice none 0 0) rfl <| w_sl 5 (v2) rfl <| w_sl 6 (.int .u32 0) rfl <| w_sl 14 (v0_w) rfl <| w_sl 15 (.int .i64 (w.length : Int)) rfl <| w_sl 16 (.int .i64 0) rfl <| hh.l0 hle he h4 h0_w
theorem Xu.callsR (k : Nat) {H : Hp} {L : Items} {w : List Int} {n : Int} {v0_w : Value} {r : (List Int)} (he : Xu.f k w n = some r) (h0_w : Src kU32 H L v0_w w) : Ct Tryz.prog 114 ⟨[v0_w, .int .i64 n]⟩ H L (cR H L (Xu.out r)) := VS (Xu.calls k he h0_w)
noncomputable def Xc.C : Code := (Tryz.f156.body).getD .skip
def Xc.out (r : Int) (H : Hp) (v : Value) : Prop := v = .int .u64 r
abbrev Xc.R (H0 : Hp) (L : Items) (r : Int) := fR H0 L (Xc.out r)
structure Xc.Hs where
 l0 : (List Int) → (List Int) → Int → Int → Int → Int → Option Int
noncomputable def Xc.b0 (k : Nat) (h : Xc.Hs) (r_ d : List Int) (i n q left : Int) : Option Int := if (!(decide (4294967296 ≤ q))) = true → (0 : Int) ≤ w64 (n - 2) ∧ w64 (n - 2) < (d.length : Int) then (if (!(decide (4294967296 ≤ q))) = true → (0 : Int) ≤ w64 ((w64 (i + n)) - 2) ∧ w64 ((w64 (i + n)) - 2) < (r_.length : Int) then (if ((decide (4294967296 ≤ q)) || (decide ((ior .u64 ((left * 4294967296) % 18446744073709551616) ((rd r_ (w64 ((w64 (i + n)) - 2))) % 18446744073709551616)) < ((q * ((rd d (w64 (n - 2))) % 18446744073709551616)) % 18446744073709551616)))) = true then (if (0 : Int) ≤ w64 (n - 1) ∧ w64 (n - 1) < (d.length : Int) then (if 4294967296 ≤ ((left + ((rd d (w64 (n - 1))) % 18446744073709551616)) % 18446744073709551616) then (some ((q - 1) % 18446744073709551616)) else (h.l0 r_ d i n ((q - 1) % 18446744073709551616) ((left + ((rd d (w64 (n - 1))) % 18446744073709551616)) % 18446744073709551616))) else none) else (some (q))) else none) else none
noncomputable def Xc.hs : Nat → Xc.Hs
 | 0 => ⟨fun _ _ _ _ _ _ => none⟩
 | k + 1 => ⟨fun x0 x1 x2 x3 x4 x5 => Xc.b0 k (Xc.hs k) x0 x1 x2 x3 x4 x5⟩
noncomputable def Xc.f (k : Nat) (r_ d : List Int) (i : Int) : Option Int := (fun h : Xc.Hs => if (0 : Int) ≤ w64 (i + (d.length : Int)) ∧ w64 (i + (d.length : Int)) < (r_.length : Int) then (if (0 : Int) ≤ w64 ((w64 (i + (d.length : Int))) - 1) ∧ w64 ((w64 (i + (d.length : Int))) - 1) < (r_.length : Int) then (if (0 : Int) ≤ w64 ((d.length : Int) - 1) ∧ w64 ((d.length : Int) - 1) < (d.length : Int) then (if ((rd d (w64 ((d.length : Int) - 1))) % 18446744073709551616) ≠ 0 then (if (0 : Int) ≤ w64 ((d.length : Int) - 1) ∧ w64 ((d.length : Int) - 1) < (d.length : Int) then (if ((rd d (w64 ((d.length : Int) - 1))) % 18446744073709551616) ≠ 0 then (h.l0 r_ d i (d.length : Int) ((Int.tdiv (ior .u64 ((((rd r_ (w64 (i + (d.length : Int)))) % 18446744073709551616) * 4294967296) % 18446744073709551616) ((rd r_ (w64 ((w64 (i + (d.length : Int))) - 1))) % 18446744073709551616)) ((rd d (w64 ((d.length : Int) - 1))) % 18446744073709551616)) % 18446744073709551616) (Int.tmod (ior .u64 ((((rd r_ (w64 (i + (d.length : Int)))) % 18446744073709551616) * 4294967296) % 18446744073709551616) ((rd r_ (w64 ((w64 (i + (d.length : Int))) - 1))) % 18446744073709551616)) ((rd d (w64 ((d.length : Int) - 1))) % 18446744073709551616))) else none) else none) else none) else none) else none) else none) (Xc.hs k)
structure Xc.LE (h h' : Xc.Hs) : Prop where
 l0 : ∀ y0 y1 y2 y3 y4 y5, LeO (h.l0 y0 y1 y2 y3 y4 y5) (h'.l0 y0 y1 y2 y3 y4 y5)
theorem Xc.b0_mono {k : Nat} {h h' : Xc.Hs} (hl : Xc.LE h h') : ∀ y0 y1 y2 y3 y4 y5, LeO (Xc.b0 k h y0 y1 y2 y3 y4 y5) (Xc.b0 (k + 1) h' y0 y1 y2 y3 y4 y5) := fun _ _ _ _ _ _ => (LeO.ite (LeO.ite (LeO.ite (LeO.ite (LeO.ite (LeO.refl _) (hl.l0 _ _ _ _ _ _)) (LeO.refl _)) (LeO.refl _)) (LeO.refl _)) (LeO.refl _))
theorem Xc.hs_mono : ∀ k, Xc.LE (Xc.hs k) (Xc.hs (k + 1))
 | 0 => ⟨fun _ _ _ _ _ _ => LeO.none _⟩
 | k + 1 => ⟨Xc.b0_mono (k := k) (Xc.hs_mono k)⟩
theorem Xc.mono : ∀ k y0 y1 y2, LeO (Xc.f k y0 y1 y2) (Xc.f (k + 1) y0 y1 y2) := fun k _ _ _ => have hl := Xc.hs_mono k; by unfold Xc.f; exact (LeO.ite (LeO.ite (LeO.ite (LeO.ite (LeO.ite (LeO.ite (hl.l0 _ _ _ _ _ _) (LeO.refl _)) (LeO.refl _)) (LeO.refl _)) (LeO.refl _)) (LeO.refl _)) (LeO.refl _))
noncomputable def Xc.Kl0 : List Item := .code (lopB (blkB (seqL (seqR (seqR (seqR (seqR Xc.C))))))) :: .inLoop (lopB (blkB (seqL (seqR (seqR (seqR (seqR Xc.C))))))) :: .inBlock 0 :: .code (seqR (seqR (seqR (seqR (seqR Xc.C))))) :: []
structure Xc.OK (h : Xc.Hs) : Prop where
 l0 : ∀ {H0 H : Hp} {L : Items} {r : Int} {jk_ : Nat → Value} {r_ : List Int} {d : List Int} {i : Int} {n : Int} {q : Int} {left : Int} {v_r_ : Value} {v_d : Value} (_ : H0.le H) (_he : h.l0 r_ d i n q left = some r) (_h_r_ : Src kU32 H L v_r_ r_) (_h_d : Src kU32 H L v_d d), Wp Tryz.prog 156 83 Xc.Kl0 (upd (upd (upd (upd (upd (upd (upd jk_ 0 (v_r_)) 1 (v_d)) 2 (.int .i64 i)) 6 (.int .u64 0)) 7 (.int .i64 n)) 9 (.int .u64 q)) 10 (.int .u64 left)) H (L) (Xc.R H0 L r)
theorem Xc.b0_ok {k : Nat} {h : Xc.Hs} (hh : Xc.OK h) {H0 H : Hp} {L : Items} {r : Int} {jk_ : Nat → Value} {r_ d : List Int} {i n q left : Int} {v_r_ v_d : Value} (hle : H0.le H) (he : Xc.b0 k h r_ d i n q left = some r) (h_r_ : Src kU32 H L v_r_ r_) (h_d : Src kU32 H L v_d d) : Wp Tryz.prog 156 83 Xc.Kl0 (upd (upd (upd (upd (upd (upd (upd jk_ 0 (v_r_)) 1 (v_d)) 2 (.int .i64 i)) 6 (.int .u64 0)) 7 (.int .i64 n)) 9 (.int .u64 q)) 10 (.int .u64 left)) H (L) (Xc.R H0 L r) := by
 unfold Xc.b0 at he
 unfold Xc.Kl0
 refine QX <| QX <| rK he fun c16 he => rK he fun c28 he => Xv (p := 22) (tl := [22, 23]) [[], [(0, some 46)], [(1, some 47)], [(2, some 48)], [(2, some 48)], [(2, some 48)], [(2, some 48), (5, some 51)], [(2, some 48), (4, some 50), (6, some 52)], [(2, some 48), (7, some 53)], [(2, some 48), (8, some 54)], [(2, some 48), (3, some 49), (9, some 55)], [(2, some 48)], [(2, some 48), (11, some 57)], [(2, some 48)], [(2, some 48)], [(2, some 48)], [(2, some 48), (14, some 60), (15, some 61)], [(2, some 48), (16, some 62)], [(2, some 48), (13, some 59), (17, some 63)], [(2, some 48), (18, some 64)], [(2, some 48), (19, some 65)], [(2, some 48), (12, some 58), (20, some 66)]] [some 46, some 47, some 48, some 49, some 50, some 51, some 52, some 53, some 54, some 55, some 56, some 57, some 58, some 59, some 60, some 61, some 62, some 63, some 64, some 65, some 66, some 67] (fctF (.is (.int .u64 q) :: .is (.bool (decide (4294967296 ≤ q))) :: .is (.bool (decide (4294967296 ≤ q))) :: .is (cond (!(decide (4294967296 ≤ q))) (.int .u64 q) undef) :: .is (cond (!(decide (4294967296 ≤ q))) v_d undef) :: .is (cond (!(decide (4294967296 ≤ q))) (.int .i64 n) undef) :: .is (cond (!(decide (4294967296 ≤ q))) (.int .i64 (w64 (n - 2))) undef) :: .is (cond (!(decide (4294967296 ≤ q))) (.pointer (some (pel v_d (w64 (n - 2)) 1))) undef) :: .is (cond (!(decide (4294967296 ≤ q))) (.int .u32 (rd d (w64 (n - 2)))) undef) :: .is (cond (!(decide (4294967296 ≤ q))) (.int .u64 ((rd d (w64 (n - 2))) % 18446744073709551616)) undef) :: .is (cond (!(decide (4294967296 ≤ q))) (.int .u64 ((q * ((rd d (w64 (n - 2))) % 18446744073709551616)) % 18446744073709551616)) undef) :: .is (cond (!(decide (4294967296 ≤ q))) (.int .u64 left) undef) :: .is (cond (!(decide (4294967296 ≤ q))) (.int .u64 ((left * 4294967296) % 18446744073709551616)) undef) :: .is (cond (!(decide (4294967296 ≤ q))) v_r_ undef) :: .is (cond (!(decide (4294967296 ≤ q))) (.int .i64 i) undef) :: .is (cond (!(decide (4294967296 ≤ q))) (.int .i64 n) undef) :: .is (cond (!(decide (4294967296 ≤ q))) (.int .i64 (w64 (i + n))) undef) :: .is (cond (!(decide (4294967296 ≤ q))) (.int .i64 (w64 ((w64 (i + n)) - 2))) undef) :: .is (cond (!(decide (4294967296 ≤ q))) (.pointer (some (pel v_r_ (w64 ((w64 (i + n)) - 2)) 1))) undef) :: .is (cond (!(decide (4294967296 ≤ q))) (.int .u32 (rd r_ (w64 ((w64 (i + n)) - 2)))) undef) :: .is (cond (!(decide (4294967296 ≤ q))) (.int .u64 ((rd r_ (w64 ((w64 (i + n)) - 2))) % 18446744073709551616)) undef) :: .is (cond (!(decide (4294967296 ≤ q))) (.int .u64 (ior .u64 ((left * 4294967296) % 18446744073709551616) ((rd r_ (w64 ((w64 (i + n)) - 2))) % 18446744073709551616))) undef) :: [])) (fun m_ => L) (fun _ => none) mixed (by kernel_rfl) (by kernel_rfl) rfl (Xn (by kernel_rfl)) ⟨(fun H' m_ hH hm_ hu_ => dn <| s_d (m_ 0) rfl (QR (v := .int .u64 q) rfl) (by exact rfl) rfl), (by rintro H' m_ hH hm_ hu_ _ rfl; exact dn <| s_d (m_ 1) rfl (ZU rfl rfl) (by exact rfl) rfl), (by rintro H' m_ hH hm_ hu_ _ rfl; exact dn <| s_d (m_ 2) rfl (QR (v := .bool (decide (4294967296 ≤ q))) rfl) (by exact rfl) rfl), (by rintro H' m_ hH hm_ hu_ _ rfl; exact dn <| s_g (g := !(decide (4294967296 ≤ q))) (m_ 3) rfl rfl rfl wn_f (fun g11 => QR (v := .int .u64 q) rfl) rfl (by exact fun g_ => cvt g_) (by exact fun g_ => cnt g_)), (by rintro H' m_ hH hm_ hu_ _ rfl; exact dn <| s_g (g := !(decide (4294967296 ≤ q))) (m_ 4) rfl rfl rfl wn_f (fun g12 => QR (v := v_d) rfl) rfl (by exact fun g_ => cvt g_) (by exact fun g_ => cnt g_)), (by rintro H' m_ hH hm_ hu_ _ rfl; exact dn <| s_g (g := !(decide (4294967296 ≤ q))) (m_ 5) rfl rfl rfl wn_f (fun g13 => QR (v := .int .i64 n) rfl) rfl (by exact fun g_ => cvt g_) (by exact fun g_ => cnt g_)), (by rintro H' m_ hH hm_ hu_ _ rfl _ rfl; exact dn <| s_g (g := !(decide (4294967296 ≤ q))) (m_ 6) rfl rfl rfl wn_f (fun g14 => YT (c := w64 (n - 2)) (cvt g14) rfl rfl) rfl (by exact fun g_ => cvt g_) (by exact fun g_ => cnt g_)), (by rintro H' m_ hH hm_ hu_ _ rfl _ rfl _ rfl; exact dn <| s_g (g := !(decide (4294967296 ≤ q))) (m_ 7) rfl rfl rfl wn_f (fun g15 => XT (sz := 1) Tryz.underlying22 sz167 (cvt g15) (h_d.mono hH) (cvt g15) (c16 g15)) rfl (by exact fun g_ => cvt g_) (by exact fun g_ => cnt g_)), (by rintro H' m_ hH hm_ hu_ _ rfl _ rfl; exact dn <| s_g (g := !(decide (4294967296 ≤ q))) (m_ 8) rfl rfl rfl wn_f (fun g17 => XX ty167 (cvt g17) (h_d.mono hH) (c16 g17)) rfl (by exact fun g_ => cvt g_) (by exact fun g_ => cnt g_)), (by rintro H' m_ hH hm_ hu_ _ rfl _ rfl; exact dn <| s_g (g := !(decide (4294967296 ≤ q))) (m_ 9) rfl rfl rfl wn_f (fun g18 => Yd (c := (rd d (w64 (n - 2))) % 18446744073709551616) Tryz.underlying167 Tryz.underlying113 (cvt g18) rfl) rfl (by exact fun g_ => cvt g_) (by exact fun g_ => cnt g_)), (by rintro H' m_ hH hm_ hu_ _ rfl _ rfl _ rfl; exact dn <| s_g (g := !(decide (4294967296 ≤ q))) (m_ 10) rfl rfl rfl wn_f (fun g19 => NC (c := (q * ((rd d (w64 (n - 2))) % 18446744073709551616)) % 18446744073709551616) (cvt g19) (cvt g19) rfl) rfl (by exact fun g_ => cvt g_) (by exact fun g_ => cnt g_)), (by rintro H' m_ hH hm_ hu_ _ rfl; exact dn <| s_g (g := !(decide (4294967296 ≤ q))) (m_ 11) rfl rfl rfl wn_f (fun g20 => QR (v := .int .u64 left) rfl) rfl (by exact fun g_ => cvt g_) (by exact fun g_ => cnt g_)), (by rintro H' m_ hH hm_ hu_ _ rfl _ rfl; exact dn <| s_g (g := !(decide (4294967296 ≤ q))) (m_ 12) rfl rfl rfl wn_f (fun g21 => G9 (c := (left * 4294967296) % 18446744073709551616) (cvt g21) rfl (by decide) rfl) rfl (by exact fun g_ => cvt g_) (by exact fun g_ => cnt g_)), (by rintro H' m_ hH hm_ hu_ _ rfl; exact dn <| s_g (g := !(decide (4294967296 ≤ q))) (m_ 13) rfl rfl rfl wn_f (fun g22 => QR (v := v_r_) rfl) rfl (by exact fun g_ => cvt g_) (by exact fun g_ => cnt g_)), (by rintro H' m_ hH hm_ hu_ _ rfl; exact dn <| s_g (g := !(decide (4294967296 ≤ q))) (m_ 14) rfl rfl rfl wn_f (fun g23 => QR (v := .int .i64 i) rfl) rfl (by exact fun g_ => cvt g_) (by exact fun g_ => cnt g_)), (by rintro H' m_ hH hm_ hu_ _ rfl; exact dn <| s_g (g := !(decide (4294967296 ≤ q))) (m_ 15) rfl rfl rfl wn_f (fun g24 => QR (v := .int .i64 n) rfl) rfl (by exact fun g_ => cvt g_) (by exact fun g_ => cnt g_)), (by rintro H' m_ hH hm_ hu_ _ rfl _ rfl _ rfl; exact dn <| s_g (g := !(decide (4294967296 ≤ q))) (m_ 16) rfl rfl rfl wn_f (fun g25 => XG (c := w64 (i + n)) (cvt g25) (cvt g25) rfl) rfl (by exact fun g_ => cvt g_) (by exact fun g_ => cnt g_)), (by rintro H' m_ hH hm_ hu_ _ rfl _ rfl; exact dn <| s_g (g := !(decide (4294967296 ≤ q))) (m_ 17) rfl rfl rfl wn_f (fun g26 => YT (c := w64 ((w64 (i + n)) - 2)) (cvt g26) rfl rfl) rfl (by exact fun g_ => cvt g_) (by exact fun g_ => cnt g_)), (by rintro H' m_ hH hm_ hu_ _ rfl _ rfl _ rfl; exact dn <| s_g (g := !(decide (4294967296 ≤ q))) (m_ 18) rfl rfl rfl wn_f (fun g27 => XT (sz := 1) Tryz.underlying22 sz167 (cvt g27) (h_r_.mono hH) (cvt g27) (c28 g27)) rfl (by exact fun g_ => cvt g_) (by exact fun g_ => cnt g_)), (by rintro H' m_ hH hm_ hu_ _ rfl _ rfl; exact dn <| s_g (g := !(decide (4294967296 ≤ q))) (m_ 19) rfl rfl rfl wn_f (fun g29 => XX ty167 (cvt g29) (h_r_.mono hH) (c28 g29)) rfl (by exact fun g_ => cvt g_) (by exact fun g_ => cnt g_)), (by rintro H' m_ hH hm_ hu_ _ rfl _ rfl; exact dn <| s_g (g := !(decide (4294967296 ≤ q))) (m_ 20) rfl rfl rfl wn_f (fun g30 => Yd (c := (rd r_ (w64 ((w64 (i + n)) - 2))) % 18446744073709551616) Tryz.underlying167 Tryz.underlying113 (cvt g30) rfl) rfl (by exact fun g_ => cvt g_) (by exact fun g_ => cnt g_)), (by rintro H' m_ hH hm_ hu_ _ rfl _ rfl _ rfl; exact dn <| s_g (g := !(decide (4294967296 ≤ q))) (m_ 21) rfl rfl rfl wn_f (fun g31 => Md (cvt g31) (cvt g31)) rfl (by exact fun g_ => cvt g_) (by exact fun g_ => cnt g_)), trivial⟩ ?_
 intro H32 e33
 rintro _ _ rfl _ _ rfl _ _ rfl _ _ rfl _ _ rfl _ _ rfl _ _ rfl _ _ rfl _ _ rfl _ _ rfl _ _ rfl _ _ rfl _ _ rfl _ _ rfl _ _ rfl _ _ rfl _ _ rfl _ _ rfl _ _ rfl _ _ rfl _ _ rfl _ _ rfl
 refine w_g (g := !(decide (4294967296 ≤ q))) rfl rfl rfl wn_f (fun g34 => Zi (cvt g34) (cvt g34)) <| w_d rfl (d_or' (b := (decide (4294967296 ≤ q))) (p := (decide ((ior .u64 ((left * 4294967296) % 18446744073709551616) ((rd r_ (w64 ((w64 (i + n)) - 2))) % 18446744073709551616)) < ((q * ((rd d (w64 (n - 2))) % 18446744073709551616)) % 18446744073709551616)))) rfl rfl rfl) <| Qc ?_
 rcases its he with ⟨c35, he⟩ | ⟨c35, he⟩
 ·
  refine QB rfl c35 <| QF <| Q8 <| wR rfl <| wM (.int .u64 q) rfl rfl <| w_d rfl (YT (c := (q - 1) % 18446744073709551616) rfl rfl rfl) <| wA (.int .u64 ((q - 1) % 18446744073709551616)) rfl rfl <| wQ rfl <| wM (.int .u64 left) rfl rfl ?_
  refine wM v_d rfl rfl <| wM (.int .i64 n) rfl rfl <| w_d rfl (YT (c := w64 (n - 1)) rfl rfl rfl) <| rK he fun c36 he => w_d rfl (XT (sz := 1) Tryz.underlying22 sz167 rfl (h_d.mono e33) rfl c36) <| w_d rfl (XX ty167 rfl (h_d.mono e33) c36) <| w_d rfl (Yd (c := (rd d (w64 (n - 1))) % 18446744073709551616) Tryz.underlying167 Tryz.underlying113 rfl rfl) <| w_d rfl (XG (c := (left + ((rd d (w64 (n - 1))) % 18446744073709551616)) % 18446744073709551616) rfl rfl rfl) <| wA (.int .u64 ((left + ((rd d (w64 (n - 1))) % 18446744073709551616)) % 18446744073709551616)) rfl rfl <| wQ rfl ?_
  refine wM (.int .u64 ((left + ((rd d (w64 (n - 1))) % 18446744073709551616)) % 18446744073709551616)) rfl rfl <| w_d rfl (ZU rfl rfl) <| Qc ?_
  rcases its he with ⟨c37, he⟩ | ⟨c37, he⟩
  ·
   refine QB rfl (dt c37) <| Ya rfl <| wR rfl <| wM (.int .u64 ((q - 1) % 18446744073709551616)) rfl rfl <| wA (.int .u64 ((q - 1) % 18446744073709551616)) rfl rfl <| Qc ?_
   obtain rfl := sj he
   refine Qn fn_156 rs_156 (.tmp (v := .int .u64 ((q - 1) % 18446744073709551616)) rfl .nil) <| ⟨⟨[], rfl⟩, hle.trans e33, rfl⟩
  ·
   refine QI rfl (df c37) <| QF <| Xp <| Xy <| w_sl 0 (v_r_) rfl <| w_sl 1 (v_d) rfl <| w_sl 2 (.int .i64 i) rfl <| w_sl 6 (.int .u64 0) rfl <| w_sl 7 (.int .i64 n) rfl <| w_sl 9 (.int .u64 ((q - 1) % 18446744073709551616)) rfl <| w_sl 10 (.int .u64 ((left + ((rd d (w64 (n - 1))) % 18446744073709551616)) % 18446744073709551616)) rfl <| hh.l0 (hle.trans e33) he (h_r_.mono e33) (h_d.mono e33)
 ·
  refine QI rfl (Bool.eq_false_iff.2 c35) <| Ya rfl <| wR rfl <| wM (.int .u64 q) rfl rfl <| wA (.int .u64 q) rfl rfl <| Qc ?_
  obtain rfl := sj he
  refine Qn fn_156 rs_156 (.tmp (v := .int .u64 q) rfl .nil) <| ⟨⟨[], rfl⟩, hle.trans e33, rfl⟩
theorem Xc.ok : ∀ k, Xc.OK (Xc.hs k)
 | 0 => ⟨(by intros; exact nomatch (show none = some _ from by assumption))⟩
 | k + 1 => ⟨Xc.b0_ok (k := k) (Xc.ok k)⟩
theorem Xc.calls (k : Nat) {H : Hp} {L : Items} {r_ d : List Int} {i : Int} {v0_r_ v1_d : Value} {r : Int} (he : Xc.f k r_ d i = some r) (h0_r_ : Src kU32 H L v0_r_ r_) (h1_d : Src kU32 H L v1_d d) : Ct Tryz.prog 156 ⟨[v0_r_, v1_d, .int .i64 i]⟩ H L (fun v H' L' => L = L' ∧ H = H' ∧ v = .int .u64 r) := by
 refine Yr (O := Xc.out r) (fun _ _ h => h) ?_
 have hle : H.le H := .refl _
 have hh := Xc.ok k
 unfold Xc.f at he
 refine QZ (args := [v0_r_, v1_d, .int .i64 i]) fn_156 rfl nt_156 rfl <| wR rfl <| wA (.int .u64 0) rfl rfl <| wQ rfl <| wM v1_d rfl rfl <| w_d rfl (XL Tryz.underlying22 rfl h1_d) <| wA (.int .i64 (d.length : Int)) rfl rfl <| wE ?_
 refine rK he fun c1 he => rK he fun c2 he => Xv (p := 16) (tl := [16, 17]) [[], [], [], [(1, some 14), (2, some 15)], [(0, some 13), (3, some 16)], [(4, some 17)], [(5, some 18)], [(6, some 19)], [], [], [], [(9, some 22), (10, some 23)], [(11, some 24)], [(8, some 21), (12, some 25)], [(13, some 26)], [(14, some 27)]] [some 13, some 14, some 15, some 16, some 17, some 18, some 19, some 20, some 21, some 22, some 23, some 24, some 25, some 26, some 27, some 28] (fctF (.is (v0_r_) :: .is (.int .i64 i) :: .is (.int .i64 (d.length : Int)) :: .is (.int .i64 (w64 (i + (d.length : Int)))) :: .is (.pointer (some (pel v0_r_ (w64 (i + (d.length : Int))) 1))) :: .is (.int .u32 (rd r_ (w64 (i + (d.length : Int))))) :: .is (.int .u64 ((rd r_ (w64 (i + (d.length : Int)))) % 18446744073709551616)) :: .is (.int .u64 ((((rd r_ (w64 (i + (d.length : Int)))) % 18446744073709551616) * 4294967296) % 18446744073709551616)) :: .is (v0_r_) :: .is (.int .i64 i) :: .is (.int .i64 (d.length : Int)) :: .is (.int .i64 (w64 (i + (d.length : Int)))) :: .is (.int .i64 (w64 ((w64 (i + (d.length : Int))) - 1))) :: .is (.pointer (some (pel v0_r_ (w64 ((w64 (i + (d.length : Int))) - 1)) 1))) :: .is (.int .u32 (rd r_ (w64 ((w64 (i + (d.length : Int))) - 1)))) :: .is (.int .u64 ((rd r_ (w64 ((w64 (i + (d.length : Int))) - 1))) % 18446744073709551616)) :: [])) (fun m_ => L) (fun _ => none) mixed (by kernel_rfl) (by kernel_rfl) rfl (Xn (by kernel_rfl)) ⟨(fun H' m_ hH hm_ hu_ => dn <| s_d (m_ 0) rfl (QR (v := v0_r_) rfl) (by exact rfl) rfl), (fun H' m_ hH hm_ hu_ => dn <| s_d (m_ 1) rfl (QR (v := .int .i64 i) rfl) (by exact rfl) rfl), (fun H' m_ hH hm_ hu_ => dn <| s_d (m_ 2) rfl (QR (v := .int .i64 (d.length : Int)) rfl) (by exact rfl) rfl), (by rintro H' m_ hH hm_ hu_ _ rfl _ rfl; exact dn <| s_d (m_ 3) rfl (XG (c := w64 (i + (d.length : Int))) rfl rfl rfl) (by exact rfl) rfl), (by rintro H' m_ hH hm_ hu_ _ rfl _ rfl; exact dn <| s_d (m_ 4) rfl (XT (sz := 1) Tryz.underlying22 sz167 rfl (h0_r_.mono hH) rfl c1) (by exact rfl) rfl), (by rintro H' m_ hH hm_ hu_ _ rfl; exact dn <| s_d (m_ 5) rfl (XX ty167 rfl (h0_r_.mono hH) c1) (by exact rfl) rfl), (by rintro H' m_ hH hm_ hu_ _ rfl; exact dn <| s_d (m_ 6) rfl (Yd (c := (rd r_ (w64 (i + (d.length : Int)))) % 18446744073709551616) Tryz.underlying167 Tryz.underlying113 rfl rfl) (by exact rfl) rfl), (by rintro H' m_ hH hm_ hu_ _ rfl; exact dn <| s_d (m_ 7) rfl (G9 (c := (((rd r_ (w64 (i + (d.length : Int)))) % 18446744073709551616) * 4294967296) % 18446744073709551616) rfl rfl (by decide) rfl) (by exact rfl) rfl), (fun H' m_ hH hm_ hu_ => dn <| s_d (m_ 8) rfl (QR (v := v0_r_) rfl) (by exact rfl) rfl), (fun H' m_ hH hm_ hu_ => dn <| s_d (m_ 9) rfl (QR (v := .int .i64 i) rfl) (by exact rfl) rfl), (fun H' m_ hH hm_ hu_ => dn <| s_d (m_ 10) rfl (QR (v := .int .i64 (d.length : Int)) rfl) (by exact rfl) rfl), (by rintro H' m_ hH hm_ hu_ _ rfl _ rfl; exact dn <| s_d (m_ 11) rfl (XG (c := w64 (i + (d.length : Int))) rfl rfl rfl) (by exact rfl) rfl), (by rintro H' m_ hH hm_ hu_ _ rfl; exact dn <| s_d (m_ 12) rfl (YT (c := w64 ((w64 (i + (d.length : Int))) - 1)) rfl rfl rfl) (by exact rfl) rfl), (by rintro H' m_ hH hm_ hu_ _ rfl _ rfl; exact dn <| s_d (m_ 13) rfl (XT (sz := 1) Tryz.underlying22 sz167 rfl (h0_r_.mono hH) rfl c2) (by exact rfl) rfl), (by rintro H' m_ hH hm_ hu_ _ rfl; exact dn <| s_d (m_ 14) rfl (XX ty167 rfl (h0_r_.mono hH) c2) (by exact rfl) rfl), (by rintro H' m_ hH hm_ hu_ _ rfl; exact dn <| s_d (m_ 15) rfl (Yd (c := (rd r_ (w64 ((w64 (i + (d.length : Int))) - 1))) % 18446744073709551616) Tryz.underlying167 Tryz.underlying113 rfl rfl) (by exact rfl) rfl), trivial⟩ ?_
 intro H3 e4
 rintro _ _ rfl _ _ rfl _ _ rfl _ _ rfl _ _ rfl _ _ rfl _ _ rfl _ _ rfl _ _ rfl _ _ rfl _ _ rfl _ _ rfl _ _ rfl _ _ rfl _ _ rfl _ _ rfl
 refine w_d rfl (Md rfl rfl) <| wA (.int .u64 (ior .u64 ((((rd r_ (w64 (i + (d.length : Int)))) % 18446744073709551616) * 4294967296) % 18446744073709551616) ((rd r_ (w64 ((w64 (i + (d.length : Int))) - 1))) % 18446744073709551616))) rfl rfl <| wE <| rK he fun c5 he => rK he fun c6 he => rK he fun c7 he => rK he fun c8 he => Xv (p := 17) (tl := [17]) [[], [], [], [(2, some 32)], [(1, some 31), (3, some 33)], [(4, some 34)], [(5, some 35)], [(0, some 30), (6, some 36)], [], [], [], [(10, some 40)], [(9, some 39), (11, some 41)], [(12, some 42)], [(13, some 43)], [(8, some 38), (14, some 44)], [(7, some 37)]] [some 30, some 31, some 32, some 33, some 34, some 35, some 36, some 37, some 38, some 39, some 40, some 41, some 42, some 43, some 44, some 45, some 9] (fctF (.is (.int .u64 (ior .u64 ((((rd r_ (w64 (i + (d.length : Int)))) % 18446744073709551616) * 4294967296) % 18446744073709551616) ((rd r_ (w64 ((w64 (i + (d.length : Int))) - 1))) % 18446744073709551616))) :: .is (v1_d) :: .is (.int .i64 (d.length : Int)) :: .is (.int .i64 (w64 ((d.length : Int) - 1))) :: .is (.pointer (some (pel v1_d (w64 ((d.length : Int) - 1)) 1))) :: .is (.int .u32 (rd d (w64 ((d.length : Int) - 1)))) :: .is (.int .u64 ((rd d (w64 ((d.length : Int) - 1))) % 18446744073709551616)) :: .is (.int .u64 ((Int.tdiv (ior .u64 ((((rd r_ (w64 (i + (d.length : Int)))) % 18446744073709551616) * 4294967296) % 18446744073709551616) ((rd r_ (w64 ((w64 (i + (d.length : Int))) - 1))) % 18446744073709551616)) ((rd d (w64 ((d.length : Int) - 1))) % 18446744073709551616)) % 18446744073709551616)) :: .is (.int .u64 (ior .u64 ((((rd r_ (w64 (i + (d.length : Int)))) % 18446744073709551616) * 4294967296) % 18446744073709551616) ((rd r_ (w64 ((w64 (i + (d.length : Int))) - 1))) % 18446744073709551616))) :: .is (v1_d) :: .is (.int .i64 (d.length : Int)) :: .is (.int .i64 (w64 ((d.length : Int) - 1))) :: .is (.pointer (some (pel v1_d (w64 ((d.length : Int) - 1)) 1))) :: .is (.int .u32 (rd d (w64 ((d.length : Int) - 1)))) :: .is (.int .u64 ((rd d (w64 ((d.length : Int) - 1))) % 18446744073709551616)) :: .is (.int .u64 (Int.tmod (ior .u64 ((((rd r_ (w64 (i + (d.length : Int)))) % 18446744073709551616) * 4294967296) % 18446744073709551616) ((rd r_ (w64 ((w64 (i + (d.length : Int))) - 1))) % 18446744073709551616)) ((rd d (w64 ((d.length : Int) - 1))) % 18446744073709551616))) :: .is (.int .u64 ((Int.tdiv (ior .u64 ((((rd r_ (w64 (i + (d.length : Int)))) % 18446744073709551616) * 4294967296) % 18446744073709551616) ((rd r_ (w64 ((w64 (i + (d.length : Int))) - 1))) % 18446744073709551616)) ((rd d (w64 ((d.length : Int) - 1))) % 18446744073709551616)) % 18446744073709551616)) :: [])) (fun m_ => L) (fun _ => none) mixed (by kernel_rfl) (by kernel_rfl) rfl (Xn (by kernel_rfl)) ⟨(fun H' m_ hH hm_ hu_ => dn <| s_d (m_ 0) rfl (QR (v := .int .u64 (ior .u64 ((((rd r_ (w64 (i + (d.length : Int)))) % 18446744073709551616) * 4294967296) % 18446744073709551616) ((rd r_ (w64 ((w64 (i + (d.length : Int))) - 1))) % 18446744073709551616))) rfl) (by exact rfl) rfl), (fun H' m_ hH hm_ hu_ => dn <| s_d (m_ 1) rfl (QR (v := v1_d) rfl) (by exact rfl) rfl), (fun H' m_ hH hm_ hu_ => dn <| s_d (m_ 2) rfl (QR (v := .int .i64 (d.length : Int)) rfl) (by exact rfl) rfl), (by rintro H' m_ hH hm_ hu_ _ rfl; exact dn <| s_d (m_ 3) rfl (YT (c := w64 ((d.length : Int) - 1)) rfl rfl rfl) (by exact rfl) rfl), (by rintro H' m_ hH hm_ hu_ _ rfl _ rfl; exact dn <| s_d (m_ 4) rfl (XT (sz := 1) Tryz.underlying22 sz167 rfl (h1_d.mono (e4.trans hH)) rfl c5) (by exact rfl) rfl), (by rintro H' m_ hH hm_ hu_ _ rfl; exact dn <| s_d (m_ 5) rfl (XX ty167 rfl (h1_d.mono (e4.trans hH)) c5) (by exact rfl) rfl), (by rintro H' m_ hH hm_ hu_ _ rfl; exact dn <| s_d (m_ 6) rfl (Yd (c := (rd d (w64 ((d.length : Int) - 1))) % 18446744073709551616) Tryz.underlying167 Tryz.underlying113 rfl rfl) (by exact rfl) rfl), (by rintro H' m_ hH hm_ hu_ _ rfl _ rfl; exact dn <| s_d (m_ 7) rfl (JK (c := (Int.tdiv (ior .u64 ((((rd r_ (w64 (i + (d.length : Int)))) % 18446744073709551616) * 4294967296) % 18446744073709551616) ((rd r_ (w64 ((w64 (i + (d.length : Int))) - 1))) % 18446744073709551616)) ((rd d (w64 ((d.length : Int) - 1))) % 18446744073709551616)) % 18446744073709551616) rfl rfl c6 rfl) (by exact rfl) rfl), (fun H' m_ hH hm_ hu_ => dn <| s_d (m_ 8) rfl (QR (v := .int .u64 (ior .u64 ((((rd r_ (w64 (i + (d.length : Int)))) % 18446744073709551616) * 4294967296) % 18446744073709551616) ((rd r_ (w64 ((w64 (i + (d.length : Int))) - 1))) % 18446744073709551616))) rfl) (by exact rfl) rfl), (fun H' m_ hH hm_ hu_ => dn <| s_d (m_ 9) rfl (QR (v := v1_d) rfl) (by exact rfl) rfl), (fun H' m_ hH hm_ hu_ => dn <| s_d (m_ 10) rfl (QR (v := .int .i64 (d.length : Int)) rfl) (by exact rfl) rfl), (by rintro H' m_ hH hm_ hu_ _ rfl; exact dn <| s_d (m_ 11) rfl (YT (c := w64 ((d.length : Int) - 1)) rfl rfl rfl) (by exact rfl) rfl), (by rintro H' m_ hH hm_ hu_ _ rfl _ rfl; exact dn <| s_d (m_ 12) rfl (XT (sz := 1) Tryz.underlying22 sz167 rfl (h1_d.mono (e4.trans hH)) rfl c7) (by exact rfl) rfl), (by rintro H' m_ hH hm_ hu_ _ rfl; exact dn <| s_d (m_ 13) rfl (XX ty167 rfl (h1_d.mono (e4.trans hH)) c7) (by exact rfl) rfl), (by rintro H' m_ hH hm_ hu_ _ rfl; exact dn <| s_d (m_ 14) rfl (Yd (c := (rd d (w64 ((d.length : Int) - 1))) % 18446744073709551616) Tryz.underlying167 Tryz.underlying113 rfl rfl) (by exact rfl) rfl), (by rintro H' m_ hH hm_ hu_ _ rfl _ rfl; exact dn <| s_d (m_ 15) rfl (Js rfl rfl c8) (by exact rfl) rfl), (by rintro H' m_ hH hm_ hu_ _ rfl; exact dn <| s_d (m_ 16) rfl (Oh (v := .int .u64 ((Int.tdiv (ior .u64 ((((rd r_ (w64 (i + (d.length : Int)))) % 18446744073709551616) * 4294967296) % 18446744073709551616) ((rd r_ (w64 ((w64 (i + (d.length : Int))) - 1))) % 18446744073709551616)) ((rd d (w64 ((d.length : Int) - 1))) % 18446744073709551616)) % 18446744073709551616)) rfl) (by exact rfl) rfl), trivial⟩ ?_
 intro H9 e10
 rintro _ _ rfl _ _ rfl _ _ rfl _ _ rfl _ _ rfl _ _ rfl _ _ rfl _ _ rfl _ _ rfl _ _ rfl _ _ rfl _ _ rfl _ _ rfl _ _ rfl _ _ rfl _ _ rfl _ _ rfl
 refine wA (.int .u64 (Int.tmod (ior .u64 ((((rd r_ (w64 (i + (d.length : Int)))) % 18446744073709551616) * 4294967296) % 18446744073709551616) ((rd r_ (w64 ((w64 (i + (d.length : Int))) - 1))) % 18446744073709551616)) ((rd d (w64 ((d.length : Int) - 1))) % 18446744073709551616))) rfl rfl <| wE <| Q8 <| Ye <| w_sl 0 (v0_r_) rfl <| w_sl 1 (v1_d) rfl <| w_sl 2 (.int .i64 i) rfl <| w_sl 6 (.int .u64 0) rfl <| w_sl 7 (.int .i64 (d.length : Int)) rfl <| w_sl 9 (.int .u64 ((Int.tdiv (ior .u64 ((((rd r_ (w64 (i + (d.length : Int)))) % 18446744073709551616) * 4294967296) % 18446744073709551616) ((rd r_ (w64 ((w64 (i + (d.length : Int))) - 1))) % 18446744073709551616)) ((rd d (w64 ((d.length : Int) - 1))) % 18446744073709551616)) % 18446744073709551616)) rfl <| w_sl 10 (.int .u64 (Int.tmod (ior .u64 ((((rd r_ (w64 (i + (d.length : Int)))) % 18446744073709551616) * 4294967296) % 18446744073709551616) ((rd r_ (w64 ((w64 (i + (d.length : Int))) - 1))) % 18446744073709551616)) ((rd d (w64 ((d.length : Int) - 1))) % 18446744073709551616))) rfl <| hh.l0 (hle.trans (e4.trans e10)) he (h0_r_.mono (e4.trans e10)) (h1_d.mono (e4.trans e10))
noncomputable def QA.C : Code := (Tryz.f157.body).getD .skip
def QA.out (r : Bool × (List Int)) (H : Hp) (v : Value) : Prop := v = .bool r.1
abbrev QA.R (vr_ : Value) (H0 : Hp) (L : Items) (r : Bool × (List Int)) : Value → Hp → Items → Prop := fun v H' L' => (∃ p it', L' = p ++ it' :: L ∧ Sl kU32 H' 167 it' vr_ r.2) ∧ H0.le H' ∧ v = .bool r.1
structure QA.Hs where
 l0 : (List Int) → (List Int) → Int → Int → Int → Int → Int → Option (Bool × (List Int))
noncomputable def QA.j2 (k : Nat) (h : QA.Hs) (r_ d : List Int) (i q borrow carry j_ p : Int) : Option (Bool × (List Int)) := if (0 : Int) ≤ w64 (i + j_) ∧ w64 (i + j_) < (r_.length : Int) then (if (0 : Int) ≤ w64 (i + j_) ∧ w64 (i + j_) < (r_.length : Int) then (h.l0 (r_.set (w64 (i + j_) : Int).toNat ((w64 ((w64 ((w64 (rd r_ (w64 (i + j_)))) - (w64 ((p) % 4294967296)))) + borrow)) % 4294967296)) d i q ((w64 ((w64 ((w64 (rd r_ (w64 (i + j_)))) - (w64 ((p) % 4294967296)))) + borrow)) / 4294967296) (p / 4294967296) (w64 (j_ + 1))) else none) else none
noncomputable def QA.b0 (k : Nat) (h : QA.Hs) (r_ d : List Int) (i q borrow carry j_ : Int) : Option (Bool × (List Int)) := if j_ ≤ (d.length : Int) then (if j_ < (d.length : Int) then (if (0 : Int) ≤ j_ ∧ j_ < (d.length : Int) then (QA.j2 k h r_ d i q borrow carry j_ ((carry + ((q * ((rd d j_) % 18446744073709551616)) % 18446744073709551616)) % 18446744073709551616)) else none) else (QA.j2 k h r_ d i q borrow carry j_ carry)) else (some (decide (borrow < 0), r_))
noncomputable def QA.hs : Nat → QA.Hs
 | 0 => ⟨fun _ _ _ _ _ _ _ => none⟩
 | k + 1 => ⟨fun x0 x1 x2 x3 x4 x5 x6 => QA.b0 k (QA.hs k) x0 x1 x2 x3 x4 x5 x6⟩
noncomputable def QA.f (k : Nat) (r_ d : List Int) (i q : Int) : Option (Bool × (List Int)) := (fun h : QA.Hs => h.l0 r_ d i q 0 0 0) (QA.hs k)
structure QA.LE (h h' : QA.Hs) : Prop where
 l0 : ∀ y0 y1 y2 y3 y4 y5 y6, LeO (h.l0 y0 y1 y2 y3 y4 y5 y6) (h'.l0 y0 y1 y2 y3 y4 y5 y6)
theorem QA.j2_mono {k : Nat} {h h' : QA.Hs} (hl : QA.LE h h') : ∀ y0 y1 y2 y3 y4 y5 y6 y7, LeO (QA.j2 k h y0 y1 y2 y3 y4 y5 y6 y7) (QA.j2 (k + 1) h' y0 y1 y2 y3 y4 y5 y6 y7) := fun _ _ _ _ _ _ _ _ => (LeO.ite (LeO.ite (hl.l0 _ _ _ _ _ _ _) (LeO.refl _)) (LeO.refl _))
theorem QA.b0_mono {k : Nat} {h h' : QA.Hs} (hl : QA.LE h h') : ∀ y0 y1 y2 y3 y4 y5 y6, LeO (QA.b0 k h y0 y1 y2 y3 y4 y5 y6) (QA.b0 (k + 1) h' y0 y1 y2 y3 y4 y5 y6) := fun _ _ _ _ _ _ _ => (LeO.ite (LeO.ite (LeO.ite (QA.j2_mono (k := k) hl _ _ _ _ _ _ _ _) (LeO.refl _)) (QA.j2_mono (k := k) hl _ _ _ _ _ _ _ _)) (LeO.refl _))
theorem QA.hs_mono : ∀ k, QA.LE (QA.hs k) (QA.hs (k + 1))
 | 0 => ⟨fun _ _ _ _ _ _ _ => LeO.none _⟩
 | k + 1 => ⟨QA.b0_mono (k := k) (QA.hs_mono k)⟩
theorem QA.mono : ∀ k y0 y1 y2 y3, LeO (QA.f k y0 y1 y2 y3) (QA.f (k + 1) y0 y1 y2 y3) := fun k _ _ _ _ => have hl := QA.hs_mono k; by unfold QA.f; exact (hl.l0 _ _ _ _ _ _ _)
noncomputable def QA.Kl0 : List Item := .code (lopB (blkB (seqR (seqL (seqR (seqR (seqR QA.C))))))) :: .inLoop (lopB (blkB (seqR (seqL (seqR (seqR (seqR QA.C))))))) :: .inBlock 0 :: .code (seqR (seqR (seqR (seqR QA.C)))) :: []
noncomputable def QA.Kj2 : List Item := .code (seqR (seqR (blkB (seqL (seqR (lopB (blkB (seqR (seqL (seqR (seqR (seqR QA.C)))))))))))) :: .inBlock 1 :: .code (seqR (seqR (lopB (blkB (seqR (seqL (seqR (seqR (seqR QA.C))))))))) :: .inLoop (lopB (blkB (seqR (seqL (seqR (seqR (seqR QA.C))))))) :: .inBlock 0 :: .code (seqR (seqR (seqR (seqR QA.C)))) :: []
structure QA.OK (h : QA.Hs) : Prop where
 l0 : ∀ {H0 H : Hp} {L : Items} {r : Bool × (List Int)} {jk_ : Nat → Value} {r_ : List Int} {d : List Int} {i : Int} {q : Int} {borrow : Int} {carry : Int} {j_ : Int} {vr_ : Value} {v_d : Value} {i_r_ : Item'} (_ : H0.le H) (_he : h.l0 r_ d i q borrow carry j_ = some r) (_h_r_ : Sl kU32 H 167 i_r_ vr_ r_) (_h_d : Src kU32 H L v_d d), Wp Tryz.prog 157 60 QA.Kl0 (upd (upd (upd (upd (upd (upd (upd (upd jk_ 0 (vr_)) 1 (v_d)) 2 (.int .i64 i)) 3 (.int .u64 q)) 8 (.bool false)) 9 (.int .i64 borrow)) 10 (.int .u64 carry)) 11 (.int .i64 j_)) H (i_r_ :: L) (QA.R vr_ H0 L r)
theorem QA.j2_ok {k : Nat} {h : QA.Hs} (hh : QA.OK h) {H0 H : Hp} {L : Items} {r : Bool × (List Int)} {jk_ : Nat → Value} {r_ d : List Int} {i q borrow carry j_ p : Int} {vr_ v_d : Value} {i_r_ : Item'} (hle : H0.le H) (he : QA.j2 k h r_ d i q borrow carry j_ p = some r) (h_r_ : Sl kU32 H 167 i_r_ vr_ r_) (h_d : Src kU32 H L v_d d) : Wp Tryz.prog 157 60 QA.Kj2 (upd (upd (upd (upd (upd (upd (upd (upd (upd jk_ 0 (vr_)) 1 (v_d)) 2 (.int .i64 i)) 3 (.int .u64 q)) 8 (.bool false)) 9 (.int .i64 borrow)) 10 (.int .u64 carry)) 11 (.int .i64 j_)) 12 (.int .u64 p)) H (i_r_ :: L) (QA.R vr_ H0 L r) := by
 unfold QA.j2 at he
 unfold QA.Kj2
 refine wR rfl <| wM (.int .u64 p) rfl rfl <| w_d rfl (Ju (c := p / 4294967296) rfl rfl (by decide) rfl) <| wA (.int .u64 (p / 4294967296)) rfl rfl <| wQ rfl <| wM vr_ rfl rfl <| wM (.int .i64 i) rfl rfl <| wM (.int .i64 j_) rfl rfl <| w_d rfl (XG (c := w64 (i + j_)) rfl rfl rfl) ?_
 refine rK he fun c4 he => w_d rfl (Y0 (sz := 1) Tryz.underlying22 sz167 rfl h_r_.shp rfl c4) <| w_d rfl (XX ty167 rfl (h_r_.src .here) c4) <| w_d rfl (Yd (c := w64 (rd r_ (w64 (i + j_)))) Tryz.underlying167 Tryz.underlying2 rfl rfl) <| wM (.int .u64 p) rfl rfl <| w_d rfl (Yd (c := (p) % 4294967296) Tryz.underlying113 Tryz.underlying167 rfl rfl) <| w_d rfl (Yd (c := w64 ((p) % 4294967296)) Tryz.underlying167 Tryz.underlying2 rfl rfl) <| w_d rfl (YT (c := w64 ((w64 (rd r_ (w64 (i + j_)))) - (w64 ((p) % 4294967296)))) rfl rfl rfl) <| wM (.int .i64 borrow) rfl rfl <| w_d rfl (XG (c := w64 ((w64 ((w64 (rd r_ (w64 (i + j_)))) - (w64 ((p) % 4294967296)))) + borrow)) rfl rfl rfl) <| wA (.int .i64 (w64 ((w64 ((w64 (rd r_ (w64 (i + j_)))) - (w64 ((p) % 4294967296)))) + borrow))) rfl rfl <| Qc ?_
 refine wR rfl <| wM vr_ rfl rfl <| wM (.int .i64 i) rfl rfl <| wM (.int .i64 j_) rfl rfl <| w_d rfl (XG (c := w64 (i + j_)) rfl rfl rfl) <| wM (.int .i64 (w64 ((w64 ((w64 (rd r_ (w64 (i + j_)))) - (w64 ((p) % 4294967296)))) + borrow))) rfl rfl <| w_d rfl (Yd (c := (w64 ((w64 ((w64 (rd r_ (w64 (i + j_)))) - (w64 ((p) % 4294967296)))) + borrow)) % 4294967296) Tryz.underlying2 Tryz.underlying167 rfl rfl) <| rK he fun c5 he => w_d rfl (Y0 (sz := 1) Tryz.underlying22 sz167 rfl h_r_.shp rfl c5) <| w_a0 rfl (Zn (kd := kU32) (v := .int .u32 ((w64 ((w64 ((w64 (rd r_ (w64 (i + j_)))) - (w64 ((p) % 4294967296)))) + borrow)) % 4294967296)) (F := fun z_ => z_ :: L) sz167 rfl rfl rfl rfl h_r_ c5 (fun _ => .here)) ?_
 rintro _ _ _ ⟨i6, rfl, rfl, rfl, h7⟩
 refine Qc <| QH rfl <| wM (.int .i64 (w64 ((w64 ((w64 (rd r_ (w64 (i + j_)))) - (w64 ((p) % 4294967296)))) + borrow))) rfl rfl <| w_d rfl (Ju (c := (w64 ((w64 ((w64 (rd r_ (w64 (i + j_)))) - (w64 ((p) % 4294967296)))) + borrow)) / 4294967296) rfl rfl (by decide) rfl) <| wA (.int .i64 ((w64 ((w64 ((w64 (rd r_ (w64 (i + j_)))) - (w64 ((p) % 4294967296)))) + borrow)) / 4294967296)) rfl rfl <| Qc <| Xp <| QH rfl <| wM (.int .i64 j_) rfl rfl <| w_d rfl (XG (c := w64 (j_ + 1)) rfl rfl rfl) <| wA (.int .i64 (w64 (j_ + 1))) rfl rfl <| Qc ?_
 refine Xy <| w_sl 0 (vr_) rfl <| w_sl 1 (v_d) rfl <| w_sl 2 (.int .i64 i) rfl <| w_sl 3 (.int .u64 q) rfl <| w_sl 8 (.bool false) rfl <| w_sl 9 (.int .i64 ((w64 ((w64 ((w64 (rd r_ (w64 (i + j_)))) - (w64 ((p) % 4294967296)))) + borrow)) / 4294967296)) rfl <| w_sl 10 (.int .u64 (p / 4294967296)) rfl <| w_sl 11 (.int .i64 (w64 (j_ + 1))) rfl <| hh.l0 hle he h7 h_d
theorem QA.b0_ok {k : Nat} {h : QA.Hs} (hh : QA.OK h) {H0 H : Hp} {L : Items} {r : Bool × (List Int)} {jk_ : Nat → Value} {r_ d : List Int} {i q borrow carry j_ : Int} {vr_ v_d : Value} {i_r_ : Item'} (hle : H0.le H) (he : QA.b0 k h r_ d i q borrow carry j_ = some r) (h_r_ : Sl kU32 H 167 i_r_ vr_ r_) (h_d : Src kU32 H L v_d d) : Wp Tryz.prog 157 60 QA.Kl0 (upd (upd (upd (upd (upd (upd (upd (upd jk_ 0 (vr_)) 1 (v_d)) 2 (.int .i64 i)) 3 (.int .u64 q)) 8 (.bool false)) 9 (.int .i64 borrow)) 10 (.int .u64 carry)) 11 (.int .i64 j_)) H (i_r_ :: L) (QA.R vr_ H0 L r) := by
 unfold QA.b0 at he
 unfold QA.Kl0
 refine QX <| wR rfl <| wM (.int .i64 j_) rfl rfl <| wM v_d rfl rfl <| w_d rfl (XL Tryz.underlying22 rfl h_d.th) <| w_d rfl (Gt rfl rfl) <| Qc ?_
 rcases its he with ⟨c1, he⟩ | ⟨c1, he⟩
 ·
  refine QB rfl (dt c1) <| QF <| QX <| Q8 <| wR rfl <| wM (.int .u64 carry) rfl rfl <| wA (.int .u64 carry) rfl rfl <| wE <| wR rfl ?_
  refine wM (.int .i64 j_) rfl rfl <| wM v_d rfl rfl <| w_d rfl (XL Tryz.underlying22 rfl h_d.th) <| w_d rfl (XO rfl rfl) <| Qc ?_
  rcases its he with ⟨c2, he⟩ | ⟨c2, he⟩
  ·
   refine QB rfl (dt c2) <| QH rfl <| wM (.int .u64 carry) rfl rfl <| wM (.int .u64 q) rfl rfl <| wM v_d rfl rfl <| wM (.int .i64 j_) rfl rfl <| rK he fun c3 he => w_d rfl (XT (sz := 1) Tryz.underlying22 sz167 rfl h_d.th rfl c3) <| w_d rfl (XX ty167 rfl h_d.th c3) <| w_d rfl (Yd (c := (rd d j_) % 18446744073709551616) Tryz.underlying167 Tryz.underlying113 rfl rfl) <| w_d rfl (NC (c := (q * ((rd d j_) % 18446744073709551616)) % 18446744073709551616) rfl rfl rfl) <| w_d rfl (XG (c := (carry + ((q * ((rd d j_) % 18446744073709551616)) % 18446744073709551616)) % 18446744073709551616) rfl rfl rfl) ?_
   refine wA (.int .u64 ((carry + ((q * ((rd d j_) % 18446744073709551616)) % 18446744073709551616)) % 18446744073709551616)) rfl rfl <| Qc <| w_sl 0 (vr_) rfl <| w_sl 1 (v_d) rfl <| w_sl 2 (.int .i64 i) rfl <| w_sl 3 (.int .u64 q) rfl <| w_sl 8 (.bool false) rfl <| w_sl 9 (.int .i64 borrow) rfl <| w_sl 10 (.int .u64 carry) rfl <| w_sl 11 (.int .i64 j_) rfl <| w_sl 12 (.int .u64 ((carry + ((q * ((rd d j_) % 18446744073709551616)) % 18446744073709551616)) % 18446744073709551616)) rfl <| QA.j2_ok (k := k) hh hle he h_r_ h_d
  ·
   refine QI rfl (df c2) <| QF <| w_sl 0 (vr_) rfl <| w_sl 1 (v_d) rfl <| w_sl 2 (.int .i64 i) rfl <| w_sl 3 (.int .u64 q) rfl <| w_sl 8 (.bool false) rfl <| w_sl 9 (.int .i64 borrow) rfl <| w_sl 10 (.int .u64 carry) rfl <| w_sl 11 (.int .i64 j_) rfl <| w_sl 12 (.int .u64 carry) rfl <| QA.j2_ok (k := k) hh hle he h_r_ h_d
 ·
  refine QI rfl (df c1) <| Ya rfl <| wR rfl <| wM (.int .i64 borrow) rfl rfl <| w_d rfl (XO rfl rfl) <| wA (.bool (decide (borrow < 0))) rfl rfl <| Qc ?_
  obtain rfl := sj he
  refine Qn fn_157 rs_157 (.tmp (v := .bool (decide (borrow < 0))) rfl .nil) <| ⟨⟨[], _, rfl, h_r_⟩, hle, rfl⟩
theorem QA.ok : ∀ k, QA.OK (QA.hs k)
 | 0 => ⟨(by intros; exact nomatch (show none = some _ from by assumption))⟩
 | k + 1 => ⟨QA.b0_ok (k := k) (QA.ok k)⟩
theorem QA.calls (k : Nat) {H : Hp} {L : Items} {r_ d : List Int} {i q : Int} {vr_ : Value} {it_ : Item'} {v0_d : Value} {r : Bool × (List Int)} (he : QA.f k r_ d i q = some r) (hr_ : Sl kU32 H 167 it_ vr_ r_) (h0_d : Src kU32 H L v0_d d) : Ct Tryz.prog 157 ⟨[vr_, v0_d, .int .i64 i, .int .u64 q]⟩ H (it_ :: L) (fun v H' L' => ∃ it', L' = it' :: L ∧ H.le H' ∧ Sl kU32 H' 167 it' vr_ r.2 ∧ v = .bool r.1) := by
 refine NK (Q := fun v => v = .bool r.1) ?_
 have hle : H.le H := .refl _
 have hh := QA.ok k
 unfold QA.f at he
 refine QZ (args := [vr_, v0_d, .int .i64 i, .int .u64 q]) fn_157 rfl nt_157 rfl <| wR rfl <| wA (.bool false) rfl rfl <| wQ rfl <| wA (.int .i64 0) rfl rfl <| wQ rfl <| wA (.int .u64 0) rfl rfl ?_
 refine wE <| wR rfl <| wA (.int .i64 0) rfl rfl <| Qc <| Q8 <| Ye <| w_sl 0 (vr_) rfl <| w_sl 1 (v0_d) rfl <| w_sl 2 (.int .i64 i) rfl <| w_sl 3 (.int .u64 q) rfl ?_
 refine w_sl 8 (.bool false) rfl <| w_sl 9 (.int .i64 0) rfl <| w_sl 10 (.int .u64 0) rfl <| w_sl 11 (.int .i64 0) rfl <| hh.l0 hle he hr_ h0_d
noncomputable def Qw.C : Code := (Tryz.f158.body).getD .skip
def Qw.out (r : (List Int)) (H : Hp) (v : Value) : Prop := v = .tuple ⟨[]⟩
abbrev Qw.R (vr_ : Value) (H0 : Hp) (L : Items) (r : (List Int)) : Value → Hp → Items → Prop := fun v H' L' => (∃ p it', L' = p ++ it' :: L ∧ Sl kU32 H' 167 it' vr_ r) ∧ H0.le H' ∧ v = .tuple ⟨[]⟩
structure Qw.Hs where
 l0 : (List Int) → (List Int) → Int → Int → Int → Option (List Int)
noncomputable def Qw.j2 (k : Nat) (h : Qw.Hs) (r_ d : List Int) (i carry j_ s : Int) : Option (List Int) := if (0 : Int) ≤ w64 (i + j_) ∧ w64 (i + j_) < (r_.length : Int) then (h.l0 (r_.set (w64 (i + j_) : Int).toNat ((s) % 4294967296)) d i (s / 4294967296) (w64 (j_ + 1))) else none
noncomputable def Qw.b0 (k : Nat) (h : Qw.Hs) (r_ d : List Int) (i carry j_ : Int) : Option (List Int) := if j_ ≤ (d.length : Int) then (if (0 : Int) ≤ w64 (i + j_) ∧ w64 (i + j_) < (r_.length : Int) then (if j_ < (d.length : Int) then (if (0 : Int) ≤ j_ ∧ j_ < (d.length : Int) then (Qw.j2 k h r_ d i carry j_ ((((((rd r_ (w64 (i + j_))) % 18446744073709551616) + carry) % 18446744073709551616) + ((rd d j_) % 18446744073709551616)) % 18446744073709551616)) else none) else (Qw.j2 k h r_ d i carry j_ ((((rd r_ (w64 (i + j_))) % 18446744073709551616) + carry) % 18446744073709551616))) else none) else (some (r_))
noncomputable def Qw.hs : Nat → Qw.Hs
 | 0 => ⟨fun _ _ _ _ _ => none⟩
 | k + 1 => ⟨fun x0 x1 x2 x3 x4 => Qw.b0 k (Qw.hs k) x0 x1 x2 x3 x4⟩
noncomputable def Qw.f (k : Nat) (r_ d : List Int) (i : Int) : Option (List Int) := (fun h : Qw.Hs => h.l0 r_ d i 0 0) (Qw.hs k)
structure Qw.LE (h h' : Qw.Hs) : Prop where
 l0 : ∀ y0 y1 y2 y3 y4, LeO (h.l0 y0 y1 y2 y3 y4) (h'.l0 y0 y1 y2 y3 y4)
theorem Qw.j2_mono {k : Nat} {h h' : Qw.Hs} (hl : Qw.LE h h') : ∀ y0 y1 y2 y3 y4 y5, LeO (Qw.j2 k h y0 y1 y2 y3 y4 y5) (Qw.j2 (k + 1) h' y0 y1 y2 y3 y4 y5) := fun _ _ _ _ _ _ => (LeO.ite (hl.l0 _ _ _ _ _) (LeO.refl _))
theorem Qw.b0_mono {k : Nat} {h h' : Qw.Hs} (hl : Qw.LE h h') : ∀ y0 y1 y2 y3 y4, LeO (Qw.b0 k h y0 y1 y2 y3 y4) (Qw.b0 (k + 1) h' y0 y1 y2 y3 y4) := fun _ _ _ _ _ => (LeO.ite (LeO.ite (LeO.ite (LeO.ite (Qw.j2_mono (k := k) hl _ _ _ _ _ _) (LeO.refl _)) (Qw.j2_mono (k := k) hl _ _ _ _ _ _)) (LeO.refl _)) (LeO.refl _))
theorem Qw.hs_mono : ∀ k, Qw.LE (Qw.hs k) (Qw.hs (k + 1))
 | 0 => ⟨fun _ _ _ _ _ => LeO.none _⟩
 | k + 1 => ⟨Qw.b0_mono (k := k) (Qw.hs_mono k)⟩
theorem Qw.mono : ∀ k y0 y1 y2, LeO (Qw.f k y0 y1 y2) (Qw.f (k + 1) y0 y1 y2) := fun k _ _ _ => have hl := Qw.hs_mono k; by unfold Qw.f; exact (hl.l0 _ _ _ _ _)
noncomputable def Qw.Kl0 : List Item := .code (lopB (blkB (seqR (seqR Qw.C)))) :: .inLoop (lopB (blkB (seqR (seqR Qw.C)))) :: .inBlock 0 :: []
noncomputable def Qw.Kj2 : List Item := .code (seqR (seqR (blkB (seqL (seqR (lopB (blkB (seqR (seqR Qw.C))))))))) :: .inBlock 1 :: .code (seqR (seqR (lopB (blkB (seqR (seqR Qw.C)))))) :: .inLoop (lopB (blkB (seqR (seqR Qw.C)))) :: .inBlock 0 :: []
structure Qw.OK (h : Qw.Hs) : Prop where
 l0 : ∀ {H0 H : Hp} {L : Items} {r : (List Int)} {jk_ : Nat → Value} {r_ : List Int} {d : List Int} {i : Int} {carry : Int} {j_ : Int} {vr_ : Value} {v_d : Value} {i_r_ : Item'} (_ : H0.le H) (_he : h.l0 r_ d i carry j_ = some r) (_h_r_ : Sl kU32 H 167 i_r_ vr_ r_) (_h_d : Src kU32 H L v_d d), Wp Tryz.prog 158 44 Qw.Kl0 (upd (upd (upd (upd (upd jk_ 0 (vr_)) 1 (v_d)) 2 (.int .i64 i)) 6 (.int .u64 carry)) 7 (.int .i64 j_)) H (i_r_ :: L) (Qw.R vr_ H0 L r)
theorem Qw.j2_ok {k : Nat} {h : Qw.Hs} (hh : Qw.OK h) {H0 H : Hp} {L : Items} {r : (List Int)} {jk_ : Nat → Value} {r_ d : List Int} {i carry j_ s : Int} {vr_ v_d : Value} {i_r_ : Item'} (hle : H0.le H) (he : Qw.j2 k h r_ d i carry j_ s = some r) (h_r_ : Sl kU32 H 167 i_r_ vr_ r_) (h_d : Src kU32 H L v_d d) : Wp Tryz.prog 158 44 Qw.Kj2 (upd (upd (upd (upd (upd (upd jk_ 0 (vr_)) 1 (v_d)) 2 (.int .i64 i)) 6 (.int .u64 carry)) 7 (.int .i64 j_)) 8 (.int .u64 s)) H (i_r_ :: L) (Qw.R vr_ H0 L r) := by
 unfold Qw.j2 at he
 unfold Qw.Kj2
 refine wR rfl <| wM vr_ rfl rfl <| wM (.int .i64 i) rfl rfl <| wM (.int .i64 j_) rfl rfl <| w_d rfl (XG (c := w64 (i + j_)) rfl rfl rfl) <| wM (.int .u64 s) rfl rfl <| w_d rfl (Yd (c := (s) % 4294967296) Tryz.underlying113 Tryz.underlying167 rfl rfl) <| rK he fun c5 he => w_d rfl (Y0 (sz := 1) Tryz.underlying22 sz167 rfl h_r_.shp rfl c5) <| w_a0 rfl (Zn (kd := kU32) (v := .int .u32 ((s) % 4294967296)) (F := fun z_ => z_ :: L) sz167 rfl rfl rfl rfl h_r_ c5 (fun _ => .here)) ?_
 rintro _ _ _ ⟨i6, rfl, rfl, rfl, h7⟩
 refine Qc <| QH rfl <| wM (.int .u64 s) rfl rfl <| w_d rfl (Ju (c := s / 4294967296) rfl rfl (by decide) rfl) <| wA (.int .u64 (s / 4294967296)) rfl rfl <| Qc <| Xp <| QH rfl <| wM (.int .i64 j_) rfl rfl <| w_d rfl (XG (c := w64 (j_ + 1)) rfl rfl rfl) <| wA (.int .i64 (w64 (j_ + 1))) rfl rfl <| Qc ?_
 refine Xy <| w_sl 0 (vr_) rfl <| w_sl 1 (v_d) rfl <| w_sl 2 (.int .i64 i) rfl <| w_sl 6 (.int .u64 (s / 4294967296)) rfl <| w_sl 7 (.int .i64 (w64 (j_ + 1))) rfl <| hh.l0 hle he h7 h_d
theorem Qw.b0_ok {k : Nat} {h : Qw.Hs} (hh : Qw.OK h) {H0 H : Hp} {L : Items} {r : (List Int)} {jk_ : Nat → Value} {r_ d : List Int} {i carry j_ : Int} {vr_ v_d : Value} {i_r_ : Item'} (hle : H0.le H) (he : Qw.b0 k h r_ d i carry j_ = some r) (h_r_ : Sl kU32 H 167 i_r_ vr_ r_) (h_d : Src kU32 H L v_d d) : Wp Tryz.prog 158 44 Qw.Kl0 (upd (upd (upd (upd (upd jk_ 0 (vr_)) 1 (v_d)) 2 (.int .i64 i)) 6 (.int .u64 carry)) 7 (.int .i64 j_)) H (i_r_ :: L) (Qw.R vr_ H0 L r) := by
 unfold Qw.b0 at he
 unfold Qw.Kl0
 refine QX <| wR rfl <| wM (.int .i64 j_) rfl rfl <| wM v_d rfl rfl <| w_d rfl (XL Tryz.underlying22 rfl h_d.th) <| w_d rfl (Gt rfl rfl) <| Qc ?_
 rcases its he with ⟨c1, he⟩ | ⟨c1, he⟩
 ·
  refine QB rfl (dt c1) <| QF <| QX <| Q8 <| wR rfl <| wM vr_ rfl rfl <| wM (.int .i64 i) rfl rfl <| wM (.int .i64 j_) rfl rfl <| w_d rfl (XG (c := w64 (i + j_)) rfl rfl rfl) <| rK he fun c2 he => w_d rfl (Y0 (sz := 1) Tryz.underlying22 sz167 rfl h_r_.shp rfl c2) ?_
  refine w_d rfl (XX ty167 rfl (h_r_.src .here) c2) <| w_d rfl (Yd (c := (rd r_ (w64 (i + j_))) % 18446744073709551616) Tryz.underlying167 Tryz.underlying113 rfl rfl) <| wM (.int .u64 carry) rfl rfl <| w_d rfl (XG (c := (((rd r_ (w64 (i + j_))) % 18446744073709551616) + carry) % 18446744073709551616) rfl rfl rfl) <| wA (.int .u64 ((((rd r_ (w64 (i + j_))) % 18446744073709551616) + carry) % 18446744073709551616)) rfl rfl <| wE <| wR rfl <| wM (.int .i64 j_) rfl rfl <| wM v_d rfl rfl <| w_d rfl (XL Tryz.underlying22 rfl h_d.th) ?_
  refine w_d rfl (XO rfl rfl) <| Qc ?_
  rcases its he with ⟨c3, he⟩ | ⟨c3, he⟩
  ·
   refine QB rfl (dt c3) <| QH rfl <| wM (.int .u64 ((((rd r_ (w64 (i + j_))) % 18446744073709551616) + carry) % 18446744073709551616)) rfl rfl <| wM v_d rfl rfl <| wM (.int .i64 j_) rfl rfl <| rK he fun c4 he => w_d rfl (XT (sz := 1) Tryz.underlying22 sz167 rfl h_d.th rfl c4) <| w_d rfl (XX ty167 rfl h_d.th c4) <| w_d rfl (Yd (c := (rd d j_) % 18446744073709551616) Tryz.underlying167 Tryz.underlying113 rfl rfl) <| w_d rfl (XG (c := (((((rd r_ (w64 (i + j_))) % 18446744073709551616) + carry) % 18446744073709551616) + ((rd d j_) % 18446744073709551616)) % 18446744073709551616) rfl rfl rfl) <| wA (.int .u64 ((((((rd r_ (w64 (i + j_))) % 18446744073709551616) + carry) % 18446744073709551616) + ((rd d j_) % 18446744073709551616)) % 18446744073709551616)) rfl rfl <| Qc ?_
   refine w_sl 0 (vr_) rfl <| w_sl 1 (v_d) rfl <| w_sl 2 (.int .i64 i) rfl <| w_sl 6 (.int .u64 carry) rfl <| w_sl 7 (.int .i64 j_) rfl <| w_sl 8 (.int .u64 ((((((rd r_ (w64 (i + j_))) % 18446744073709551616) + carry) % 18446744073709551616) + ((rd d j_) % 18446744073709551616)) % 18446744073709551616)) rfl <| Qw.j2_ok (k := k) hh hle he h_r_ h_d
  ·
   refine QI rfl (df c3) <| QF <| w_sl 0 (vr_) rfl <| w_sl 1 (v_d) rfl <| w_sl 2 (.int .i64 i) rfl <| w_sl 6 (.int .u64 carry) rfl <| w_sl 7 (.int .i64 j_) rfl <| w_sl 8 (.int .u64 ((((rd r_ (w64 (i + j_))) % 18446744073709551616) + carry) % 18446744073709551616)) rfl <| Qw.j2_ok (k := k) hh hle he h_r_ h_d
 ·
  refine QI rfl (df c1) <| Ya rfl ?_
  obtain rfl := sj he
  refine Og fn_158 rs_158 .nil <| ⟨⟨[], _, rfl, h_r_⟩, hle, rfl⟩
theorem Qw.ok : ∀ k, Qw.OK (Qw.hs k)
 | 0 => ⟨(by intros; exact nomatch (show none = some _ from by assumption))⟩
 | k + 1 => ⟨Qw.b0_ok (k := k) (Qw.ok k)⟩
theorem Qw.calls (k : Nat) {H : Hp} {L : Items} {r_ d : List Int} {i : Int} {vr_ : Value} {it_ : Item'} {v0_d : Value} {r : (List Int)} (he : Qw.f k r_ d i = some r) (hr_ : Sl kU32 H 167 it_ vr_ r_) (h0_d : Src kU32 H L v0_d d) : Ct Tryz.prog 158 ⟨[vr_, v0_d, .int .i64 i]⟩ H (it_ :: L) (fun v H' L' => ∃ it', L' = it' :: L ∧ H.le H' ∧ Sl kU32 H' 167 it' vr_ r ∧ v = .tuple ⟨[]⟩) := by
 refine NK (Q := fun v => v = .tuple ⟨[]⟩) ?_
 have hle : H.le H := .refl _
 have hh := Qw.ok k
 unfold Qw.f at he
 refine QZ (args := [vr_, v0_d, .int .i64 i]) fn_158 rfl nt_158 rfl <| wR rfl <| wA (.int .u64 0) rfl rfl <| wQ rfl <| wA (.int .i64 0) rfl rfl <| Qc <| Q8 <| Ye <| w_sl 0 (vr_) rfl ?_
 refine w_sl 1 (v0_d) rfl <| w_sl 2 (.int .i64 i) rfl <| w_sl 6 (.int .u64 0) rfl <| w_sl 7 (.int .i64 0) rfl <| hh.l0 hle he hr_ h0_d
noncomputable def Xf.C : Code := (Tryz.f119.body).getD .skip
abbrev Xf.out (r : (List Int)) (H : Hp) (v : Value) : Prop := Ro kU32 H v r
noncomputable def Xf.f (k : Nat) (s : List Int) : Option (List Int) := if 0 + s.length ≤ 35184372088704 then (some (s)) else none
theorem Xf.mono : ∀ k y0, LeO (Xf.f k y0) (Xf.f (k + 1) y0) := fun k _ => by unfold Xf.f; exact (LeO.ite (LeO.refl _) (LeO.refl _))
theorem Xf.calls (k : Nat) {H : Hp} {L : Items} {s : List Int} {v0_s : Value} {r : (List Int)} (he : Xf.f k s = some r) (h0_s : Ro kU32 H v0_s s) : Ct Tryz.prog 119 ⟨[v0_s]⟩ H L (fun v H' L' => ∃ it, L' = it :: L ∧ H.le H' ∧ Sl kU32 H' 167 it v r) := by
 refine UT ?_
 have hle : H.le H := .refl _
 unfold Xf.f at he
 obtain ⟨A_, n_, rfl, hc_, h1_⟩ := h0_s
 cases A_ with
 | none =>
  have e_ : s = [] := h1_.elim id fun h => (by obtain ⟨_, _, h, _⟩ := h; cases h)
  subst e_
  refine rK he fun _ he => QZ (args := [.slice none 0 n_]) fn_119 rfl nt_119 rfl <| wR rfl <| wA (.slice none 0 0) rfl rfl <| wE <| wR rfl <| wM (.slice none 0 n_) rfl rfl <| w_d rfl (UV Tryz.underlying22 rfl) <| Qc ?_
  refine QB rfl rfl <| wR rfl <| wA (.slice none 0 0) rfl rfl <| Qc <| YF ?_
  obtain rfl := sj he
  refine Qn fn_119 rs_119 (.tmp (v := .slice none 0 0) rfl .nil) <| ⟨⟨[], _, rfl, (JV _ _ _)⟩, hle⟩
 | some a_ =>
  have h0_s : Ro kU32 H (.slice (some a_) s.length n_) s := ⟨some a_, n_, rfl, hc_, h1_⟩
  refine QZ (args := [.slice (some a_) s.length n_]) fn_119 rfl nt_119 rfl <| wR rfl <| wA (.slice none 0 0) rfl rfl <| wE <| wR rfl <| wM (.slice (some a_) s.length n_) rfl rfl <| w_d rfl (O3 Tryz.underlying22 rfl rfl) <| Qc <| QI rfl rfl ?_
  refine QF <| wR rfl <| w_a rfl (o_buildSlice' (kd := kU32) (css := []) (xs := []) (parts := []) Tryz.underlying22 ti167 rfl rfl trivial rfl (by decide)) ?_
  rintro v1 _ _ ⟨i2, rfl, rfl, h3⟩
  refine wM (.slice (some a_) s.length n_) rfl rfl <| rK he fun c4 he => w_a rfl (o_append' (kd := kU32) (F := fun z_ => z_ :: L) Tryz.underlying22 Tryz.underlying22 ti167 rfl (by first | omega | (simp only [List.nil_append, List.length_cons, List.length_nil]; omega)) rfl rfl h3 h0_s.src (fun _ => .here)) ?_
  rintro v5 _ _ ⟨i6, rfl, rfl, h7⟩
  refine wA v5 rfl rfl <| Qc ?_
  obtain rfl := sj he
  refine Qn fn_119 rs_119 (.tmp (v := v5) rfl .nil) <| ⟨⟨[], _, rfl, h7⟩, hle⟩
theorem Xf.callsR (k : Nat) {H : Hp} {L : Items} {s : List Int} {v0_s : Value} {r : (List Int)} (he : Xf.f k s = some r) (h0_s : Ro kU32 H v0_s s) : Ct Tryz.prog 119 ⟨[v0_s]⟩ H L (cR H L (Xf.out r)) := VS (Xf.calls k he h0_s)
noncomputable def QU.C : Code := (Tryz.f118.body).getD .skip
abbrev QU.out (r : (List Int)) (H : Hp) (v : Value) : Prop := Ro kU32 H v r
abbrev QU.R (H0 : Hp) (L : Items) (r : (List Int)) := fR H0 L (QU.out r)
structure QU.Hs where
 l0 : Int → (List Int) → Int → Int → Option (List Int)
noncomputable def QU.j2 (k : Nat) (h : QU.Hs) (n : Int) (out : List Int) (i v_ t11 t12 : Int) : Option (List Int) := if 0 ≤ n then (if (0 : Int) ≤ i ∧ i < (out.length : Int) then (h.l0 n (out.set (i : Int).toNat ((v_ / 2 ^ shn .u64 n) % 4294967296)) t11 (w64 (t12 + 1))) else none) else none
noncomputable def QU.b0 (k : Nat) (h : QU.Hs) (n : Int) (out : List Int) (t11 t12 : Int) : Option (List Int) := if t12 < t11 then (if (0 : Int) ≤ t12 ∧ t12 < (out.length : Int) then (if (w64 (t12 + 1)) < (out.length : Int) then (if (0 : Int) ≤ w64 (t12 + 1) ∧ w64 (t12 + 1) < (out.length : Int) then (QU.j2 k h n out t12 (ior .u64 ((rd out t12) % 18446744073709551616) ((((rd out (w64 (t12 + 1))) % 18446744073709551616) * 4294967296) % 18446744073709551616)) t11 t12) else none) else (QU.j2 k h n out t12 ((rd out t12) % 18446744073709551616) t11 t12)) else none) else ((Q3.f k out).bind fun y17 => some (y17))
noncomputable def QU.hs : Nat → QU.Hs
 | 0 => ⟨fun _ _ _ _ => none⟩
 | k + 1 => ⟨fun x0 x1 x2 x3 => QU.b0 k (QU.hs k) x0 x1 x2 x3⟩
noncomputable def QU.f (k : Nat) (w : List Int) (n : Int) : Option (List Int) := (fun h : QU.Hs => (Xf.f k w).bind fun y1 => h.l0 n y1 (y1.length : Int) 0) (QU.hs k)
structure QU.LE (h h' : QU.Hs) : Prop where
 l0 : ∀ y0 y1 y2 y3, LeO (h.l0 y0 y1 y2 y3) (h'.l0 y0 y1 y2 y3)
theorem QU.j2_mono {k : Nat} {h h' : QU.Hs} (hl : QU.LE h h') : ∀ y0 y1 y2 y3 y4 y5, LeO (QU.j2 k h y0 y1 y2 y3 y4 y5) (QU.j2 (k + 1) h' y0 y1 y2 y3 y4 y5) := fun _ _ _ _ _ _ => (LeO.ite (LeO.ite (hl.l0 _ _ _ _) (LeO.refl _)) (LeO.refl _))
theorem QU.b0_mono {k : Nat} {h h' : QU.Hs} (hl : QU.LE h h') : ∀ y0 y1 y2 y3, LeO (QU.b0 k h y0 y1 y2 y3) (QU.b0 (k + 1) h' y0 y1 y2 y3) := fun _ _ _ _ => (LeO.ite (LeO.ite (LeO.ite (LeO.ite (QU.j2_mono (k := k) hl _ _ _ _ _ _) (LeO.refl _)) (QU.j2_mono (k := k) hl _ _ _ _ _ _)) (LeO.refl _)) (LeO.bind (Q3.mono k _) fun _ => LeO.refl _))
theorem QU.hs_mono : ∀ k, QU.LE (QU.hs k) (QU.hs (k + 1))
 | 0 => ⟨fun _ _ _ _ => LeO.none _⟩
 | k + 1 => ⟨QU.b0_mono (k := k) (QU.hs_mono k)⟩
theorem QU.mono : ∀ k y0 y1, LeO (QU.f k y0 y1) (QU.f (k + 1) y0 y1) := fun k _ _ => have hl := QU.hs_mono k; by unfold QU.f; exact (LeO.bind (Xf.mono k _) fun _ => hl.l0 _ _ _ _)
noncomputable def QU.Kl0 : List Item := .code (lopB (blkB (seqR (seqL (seqR (seqR QU.C)))))) :: .inLoop (lopB (blkB (seqR (seqL (seqR (seqR QU.C)))))) :: .inBlock 0 :: .code (seqR (seqR (seqR QU.C))) :: []
noncomputable def QU.Kj2 : List Item := .code (seqR (seqR (seqR (blkB (seqL (seqR (seqR (lopB (blkB (seqR (seqL (seqR (seqR QU.C))))))))))))) :: .inBlock 1 :: .code (seqR (seqR (seqR (lopB (blkB (seqR (seqL (seqR (seqR QU.C))))))))) :: .inLoop (lopB (blkB (seqR (seqL (seqR (seqR QU.C)))))) :: .inBlock 0 :: .code (seqR (seqR (seqR QU.C))) :: []
structure QU.OK (h : QU.Hs) : Prop where
 l0 : ∀ {H0 H : Hp} {L : Items} {r : (List Int)} {jk_ : Nat → Value} {n : Int} {out : List Int} {t11 : Int} {t12 : Int} {v_out : Value} {i_out : Item'} (_ : H0.le H) (_he : h.l0 n out t11 t12 = some r) (_h_out : Sl kU32 H 167 i_out v_out out), Wp Tryz.prog 118 44 QU.Kl0 (upd (upd (upd (upd (upd jk_ 1 (.int .i64 n)) 4 (.slice none 0 0)) 5 (v_out)) 11 (.int .i64 t11)) 12 (.int .i64 t12)) H (i_out :: L) (QU.R H0 L r)
theorem QU.j2_ok {k : Nat} {h : QU.Hs} (hh : QU.OK h) {H0 H : Hp} {L : Items} {r : (List Int)} {jk_ : Nat → Value} {n : Int} {out : List Int} {i v_ t11 t12 : Int} {v_out : Value} {i_out : Item'} (hle : H0.le H) (he : QU.j2 k h n out i v_ t11 t12 = some r) (h_out : Sl kU32 H 167 i_out v_out out) : Wp Tryz.prog 118 44 QU.Kj2 (upd (upd (upd (upd (upd (upd (upd jk_ 1 (.int .i64 n)) 4 (.slice none 0 0)) 5 (v_out)) 6 (.int .i64 i)) 7 (.int .u64 v_)) 11 (.int .i64 t11)) 12 (.int .i64 t12)) H (i_out :: L) (QU.R H0 L r) := by
 unfold QU.j2 at he
 unfold QU.Kj2
 refine QH rfl <| wM v_out rfl rfl <| wM (.int .i64 i) rfl rfl <| wM (.int .u64 v_) rfl rfl <| wM (.int .i64 n) rfl rfl <| rK he fun c23 he => w_d rfl (Ju (c := v_ / 2 ^ shn .u64 n) rfl rfl c23 rfl) <| w_d rfl (Yd (c := (v_ / 2 ^ shn .u64 n) % 4294967296) Tryz.underlying113 Tryz.underlying167 rfl rfl) <| rK he fun c24 he => w_d rfl (Y0 (sz := 1) Tryz.underlying22 sz167 rfl h_out.shp rfl c24) <| w_a0 rfl (Zn (kd := kU32) (v := .int .u32 ((v_ / 2 ^ shn .u64 n) % 4294967296)) (F := fun z_ => z_ :: L) sz167 rfl rfl rfl rfl h_out c24 (fun _ => .here)) ?_
 rintro _ _ _ ⟨i25, rfl, rfl, rfl, h26⟩
 refine Qc <| Xp <| QH rfl <| w_d rfl (XG (c := w64 (t12 + 1)) rfl rfl rfl) <| wM (.int .i64 (w64 (t12 + 1))) rfl rfl <| Qc <| Xy <| w_sl 1 (.int .i64 n) rfl <| w_sl 4 (.slice none 0 0) rfl <| w_sl 5 (v_out) rfl <| w_sl 11 (.int .i64 t11) rfl <| w_sl 12 (.int .i64 (w64 (t12 + 1))) rfl <| hh.l0 hle he h26
theorem QU.b0_ok {k : Nat} {h : QU.Hs} (hh : QU.OK h) {H0 H : Hp} {L : Items} {r : (List Int)} {jk_ : Nat → Value} {n : Int} {out : List Int} {t11 t12 : Int} {v_out : Value} {i_out : Item'} (hle : H0.le H) (he : QU.b0 k h n out t11 t12 = some r) (h_out : Sl kU32 H 167 i_out v_out out) : Wp Tryz.prog 118 44 QU.Kl0 (upd (upd (upd (upd (upd jk_ 1 (.int .i64 n)) 4 (.slice none 0 0)) 5 (v_out)) 11 (.int .i64 t11)) 12 (.int .i64 t12)) H (i_out :: L) (QU.R H0 L r) := by
 unfold QU.b0 at he
 unfold QU.Kl0
 refine wR rfl <| w_d rfl (XO rfl rfl) <| wE ?_
 rcases its he with ⟨c10, he⟩ | ⟨c10, he⟩
 ·
  refine QB rfl (dt c10) <| QF <| QX <| Q8 <| wR rfl <| wM (.int .i64 t12) rfl rfl <| wA (.int .i64 t12) rfl rfl <| wQ rfl <| wM v_out rfl rfl ?_
  refine wM (.int .i64 t12) rfl rfl <| rK he fun c11 he => w_d rfl (Y0 (sz := 1) Tryz.underlying22 sz167 rfl h_out.shp rfl c11) <| w_d rfl (XX ty167 rfl (h_out.src .here) c11) <| w_d rfl (Yd (c := (rd out t12) % 18446744073709551616) Tryz.underlying167 Tryz.underlying113 rfl rfl) <| wA (.int .u64 ((rd out t12) % 18446744073709551616)) rfl rfl <| wE <| wR rfl <| wM (.int .i64 t12) rfl rfl <| w_d rfl (XG (c := w64 (t12 + 1)) rfl rfl rfl) ?_
  refine wM v_out rfl rfl <| w_d rfl (GN Tryz.underlying22 rfl h_out.shp) <| w_d rfl (XO rfl rfl) <| Qc ?_
  rcases its he with ⟨c12, he⟩ | ⟨c12, he⟩
  ·
   refine QB rfl (dt c12) <| QH rfl <| wM (.int .u64 ((rd out t12) % 18446744073709551616)) rfl rfl <| wM v_out rfl rfl <| wM (.int .i64 t12) rfl rfl <| w_d rfl (XG (c := w64 (t12 + 1)) rfl rfl rfl) <| rK he fun c13 he => w_d rfl (Y0 (sz := 1) Tryz.underlying22 sz167 rfl h_out.shp rfl c13) <| w_d rfl (XX ty167 rfl (h_out.src .here) c13) <| w_d rfl (Yd (c := (rd out (w64 (t12 + 1))) % 18446744073709551616) Tryz.underlying167 Tryz.underlying113 rfl rfl) <| w_d rfl (G9 (c := (((rd out (w64 (t12 + 1))) % 18446744073709551616) * 4294967296) % 18446744073709551616) rfl rfl (by decide) rfl) <| w_d rfl (Md rfl rfl) ?_
   refine wA (.int .u64 (ior .u64 ((rd out t12) % 18446744073709551616) ((((rd out (w64 (t12 + 1))) % 18446744073709551616) * 4294967296) % 18446744073709551616))) rfl rfl <| Qc <| w_sl 1 (.int .i64 n) rfl <| w_sl 4 (.slice none 0 0) rfl <| w_sl 5 (v_out) rfl <| w_sl 6 (.int .i64 t12) rfl <| w_sl 7 (.int .u64 (ior .u64 ((rd out t12) % 18446744073709551616) ((((rd out (w64 (t12 + 1))) % 18446744073709551616) * 4294967296) % 18446744073709551616))) rfl <| w_sl 11 (.int .i64 t11) rfl <| w_sl 12 (.int .i64 t12) rfl <| QU.j2_ok (k := k) hh hle he h_out
  ·
   refine QI rfl (df c12) <| QF <| w_sl 1 (.int .i64 n) rfl <| w_sl 4 (.slice none 0 0) rfl <| w_sl 5 (v_out) rfl <| w_sl 6 (.int .i64 t12) rfl <| w_sl 7 (.int .u64 ((rd out t12) % 18446744073709551616)) rfl <| w_sl 11 (.int .i64 t11) rfl <| w_sl 12 (.int .i64 t12) rfl <| QU.j2_ok (k := k) hh hle he h_out
 ·
  refine QI rfl (df c10) <| Ya rfl <| wR rfl <| wM v_out rfl rfl <| Y8 h_out .here ?_
  intro H14 e15 h16
  refine bK he fun y17 hy18 he => w_a rfl (Qj co113 (vs := [v_out]) rfl (Q3.calls k hy18 h16)) ?_
  rintro v21 H19 _ ⟨rfl, e20, h22⟩
  refine wA v21 rfl rfl <| Qc ?_
  obtain rfl := sj he
  refine Qn fn_118 rs_118 (.tmp (v := v21) rfl .nil) <| ⟨⟨[_], rfl⟩, hle.trans (e15.trans e20), h22⟩
theorem QU.ok : ∀ k, QU.OK (QU.hs k)
 | 0 => ⟨(by intros; exact nomatch (show none = some _ from by assumption))⟩
 | k + 1 => ⟨QU.b0_ok (k := k) (QU.ok k)⟩
theorem QU.calls (k : Nat) {H : Hp} {L : Items} {w : List Int} {n : Int} {v0_w : Value} {r : (List Int)} (he : QU.f k w n = some r) (h0_w : Ro kU32 H v0_w w) : Ct Tryz.prog 118 ⟨[v0_w, .int .i64 n]⟩ H L (cR H L (QU.out r)) := by
 refine XS (O := QU.out r) ?_
 have hle : H.le H := .refl _
 have hh := QU.ok k
 unfold QU.f at he
 refine QZ (args := [v0_w, .int .i64 n]) fn_118 rfl nt_118 rfl <| wR rfl <| wA (.slice none 0 0) rfl rfl <| wQ rfl <| wM v0_w rfl rfl <| bK he fun y1 hy2 he => w_a rfl (Qj co119 (vs := [v0_w]) rfl (Xf.calls k hy2 h0_w)) ?_
 rintro v7 H3 _ ⟨i8, rfl, e4, h9⟩
 refine wA v7 rfl rfl <| wE <| wR rfl <| wM v7 rfl rfl <| w_d rfl (GN Tryz.underlying22 rfl h9.shp) <| wM (.int .i64 0) rfl rfl <| Qc <| Q8 <| Ye <| w_sl 1 (.int .i64 n) rfl ?_
 refine w_sl 4 (.slice none 0 0) rfl <| w_sl 5 (v7) rfl <| w_sl 11 (.int .i64 (y1.length : Int)) rfl <| w_sl 12 (.int .i64 0) rfl <| hh.l0 (hle.trans e4) he h9
noncomputable def QV.C : Code := (Tryz.f142.body).getD .skip
def QV.out (r : (List Int) × (List Int)) (H : Hp) (v : Value) : Prop := ∃ v0 v1, v = .tuple ⟨[v0, v1]⟩ ∧ Ro kU32 H v0 r.1 ∧ Ro kU32 H v1 r.2
abbrev QV.R (H0 : Hp) (L : Items) (r : (List Int) × (List Int)) := fR H0 L (QV.out r)
structure QV.Hs where
 l0 : Int → (List Int) → (List Int) → (List Int) → Int → Option ((List Int) × (List Int))
noncomputable def QV.j2 (k : Nat) (h : QV.Hs) (n : Int) (d r_ q : List Int) (i g : Int) : Option ((List Int) × (List Int)) := if (0 : Int) ≤ i ∧ i < (q.length : Int) then (h.l0 n d r_ (q.set (i : Int).toNat ((g) % 4294967296)) (w64 (i - 1))) else none
noncomputable def QV.b0 (k : Nat) (h : QV.Hs) (n : Int) (d r_ q : List Int) (i : Int) : Option ((List Int) × (List Int)) := if 0 ≤ i then ((Xc.f k r_ d i).bind fun y63 => (QA.f k r_ d i y63).bind fun y67 => if y67.1 = true then ((Qw.f k y67.2 d i).bind fun y74 => QV.j2 k h n d y74 q i ((y63 - 1) % 18446744073709551616)) else (QV.j2 k h n d y67.2 q i y63)) else ((Q3.f k q).bind fun y83 => (QU.f k r_ n).bind fun y92 => some (y83, y92))
noncomputable def QV.hs : Nat → QV.Hs
 | 0 => ⟨fun _ _ _ _ _ => none⟩
 | k + 1 => ⟨fun x0 x1 x2 x3 x4 => QV.b0 k (QV.hs k) x0 x1 x2 x3 x4⟩
noncomputable def QV.f (k : Nat) (a b : List Int) : Option ((List Int) × (List Int)) := (fun h : QV.Hs => (Xb.f k a b).bind fun y1 => if y1 < 0 then (some ([], a)) else (if (b.length : Int) = 1 then (if (0 : Int) ≤ 0 ∧ 0 < (b.length : Int) then ((Q9.f k a (rd b 0)).bind fun y8 => (Q3.f k [y8.2]).bind fun y20 => some (y8.1, y20)) else none) else (if (0 : Int) ≤ w64 ((b.length : Int) - 1) ∧ w64 ((b.length : Int) - 1) < (b.length : Int) then ((XZ.f k (rd b (w64 ((b.length : Int) - 1)))).bind fun y27 => (Xu.f k b y27).bind fun y31 => (Q3.f k y31).bind fun y43 => (Xu.f k a y27).bind fun y49 => if 0 ≤ w64 ((y49.length : Int) - (y43.length : Int)) ∧ w64 ((y49.length : Int) - (y43.length : Int)) ≤ 70368744177664 then (h.l0 y27 y43 y49 (List.replicate (w64 ((y49.length : Int) - (y43.length : Int)) : Int).toNat (0 : Int)) (w64 (((List.replicate (w64 ((y49.length : Int) - (y43.length : Int)) : Int).toNat (0 : Int)).length : Int) - 1))) else none) else none))) (QV.hs k)
structure QV.LE (h h' : QV.Hs) : Prop where
 l0 : ∀ y0 y1 y2 y3 y4, LeO (h.l0 y0 y1 y2 y3 y4) (h'.l0 y0 y1 y2 y3 y4)
theorem QV.j2_mono {k : Nat} {h h' : QV.Hs} (hl : QV.LE h h') : ∀ y0 y1 y2 y3 y4 y5, LeO (QV.j2 k h y0 y1 y2 y3 y4 y5) (QV.j2 (k + 1) h' y0 y1 y2 y3 y4 y5) := fun _ _ _ _ _ _ => (LeO.ite (hl.l0 _ _ _ _ _) (LeO.refl _))
theorem QV.b0_mono {k : Nat} {h h' : QV.Hs} (hl : QV.LE h h') : ∀ y0 y1 y2 y3 y4, LeO (QV.b0 k h y0 y1 y2 y3 y4) (QV.b0 (k + 1) h' y0 y1 y2 y3 y4) := fun _ _ _ _ _ => (LeO.ite (LeO.bind (Xc.mono k _ _ _) fun _ => LeO.bind (QA.mono k _ _ _ _) fun _ => LeO.ite (LeO.bind (Qw.mono k _ _ _) fun _ => QV.j2_mono (k := k) hl _ _ _ _ _ _) (QV.j2_mono (k := k) hl _ _ _ _ _ _)) (LeO.bind (Q3.mono k _) fun _ => LeO.bind (QU.mono k _ _) fun _ => LeO.refl _))
theorem QV.hs_mono : ∀ k, QV.LE (QV.hs k) (QV.hs (k + 1))
 | 0 => ⟨fun _ _ _ _ _ => LeO.none _⟩
 | k + 1 => ⟨QV.b0_mono (k := k) (QV.hs_mono k)⟩
theorem QV.mono : ∀ k y0 y1, LeO (QV.f k y0 y1) (QV.f (k + 1) y0 y1) := fun k _ _ => have hl := QV.hs_mono k; by unfold QV.f; exact (LeO.bind (Xb.mono k _ _) fun _ => LeO.ite (LeO.refl _) (LeO.ite (LeO.ite (LeO.bind (Q9.mono k _ _) fun _ => LeO.bind (Q3.mono k _) fun _ => LeO.refl _) (LeO.refl _)) (LeO.ite (LeO.bind (XZ.mono k _) fun _ => LeO.bind (Xu.mono k _ _) fun _ => LeO.bind (Q3.mono k _) fun _ => LeO.bind (Xu.mono k _ _) fun _ => LeO.ite (hl.l0 _ _ _ _ _) (LeO.refl _)) (LeO.refl _))))
noncomputable def QV.Kl0 : List Item := .code (lopB (blkB (seqR (seqL (seqR (seqR (seqR (seqR (seqR (seqR (seqR QV.C))))))))))) :: .inLoop (lopB (blkB (seqR (seqL (seqR (seqR (seqR (seqR (seqR (seqR (seqR QV.C))))))))))) :: .inBlock 0 :: .code (seqR (seqR (seqR (seqR (seqR (seqR (seqR (seqR QV.C)))))))) :: []
noncomputable def QV.Kj2 : List Item := .code (seqR (seqR (blkB (seqL (seqR (lopB (blkB (seqR (seqL (seqR (seqR (seqR (seqR (seqR (seqR (seqR QV.C)))))))))))))))) :: .inBlock 1 :: .code (seqR (seqR (lopB (blkB (seqR (seqL (seqR (seqR (seqR (seqR (seqR (seqR (seqR QV.C))))))))))))) :: .inLoop (lopB (blkB (seqR (seqL (seqR (seqR (seqR (seqR (seqR (seqR (seqR QV.C))))))))))) :: .inBlock 0 :: .code (seqR (seqR (seqR (seqR (seqR (seqR (seqR (seqR QV.C)))))))) :: []
structure QV.OK (h : QV.Hs) : Prop where
 l0 : ∀ {H0 H : Hp} {L : Items} {r : (List Int) × (List Int)} {jk_ : Nat → Value} {n : Int} {d : List Int} {r_ : List Int} {q : List Int} {i : Int} {v_d : Value} {v_r_ : Value} {v_q : Value} {i_r_ : Item'} {i_q : Item'} (_ : H0.le H) (_he : h.l0 n d r_ q i = some r) (_h_d : Ro kU32 H v_d d) (_h_r_ : Sl kU32 H 167 i_r_ v_r_ r_) (_h_q : Sl kU32 H 167 i_q v_q q), Wp Tryz.prog 142 86 QV.Kl0 (upd (upd (upd (upd (upd (upd (upd jk_ 4 (.slice none 0 0)) 5 (.slice none 0 0)) 8 (.int .i64 n)) 9 (v_d)) 10 (v_r_)) 11 (v_q)) 12 (.int .i64 i)) H (i_q :: i_r_ :: L) (QV.R H0 L r)
theorem QV.j2_ok {k : Nat} {h : QV.Hs} (hh : QV.OK h) {H0 H : Hp} {L : Items} {r : (List Int) × (List Int)} {jk_ : Nat → Value} {n : Int} {d r_ q : List Int} {i g : Int} {v_d v_r_ v_q : Value} {i_r_ i_q : Item'} (hle : H0.le H) (he : QV.j2 k h n d r_ q i g = some r) (h_d : Ro kU32 H v_d d) (h_r_ : Sl kU32 H 167 i_r_ v_r_ r_) (h_q : Sl kU32 H 167 i_q v_q q) : Wp Tryz.prog 142 86 QV.Kj2 (upd (upd (upd (upd (upd (upd (upd (upd jk_ 4 (.slice none 0 0)) 5 (.slice none 0 0)) 8 (.int .i64 n)) 9 (v_d)) 10 (v_r_)) 11 (v_q)) 12 (.int .i64 i)) 13 (.int .u64 g)) H (i_q :: i_r_ :: L) (QV.R H0 L r) := by
 unfold QV.j2 at he
 unfold QV.Kj2
 refine QH rfl <| wM v_q rfl rfl <| wM (.int .i64 i) rfl rfl <| wM (.int .u64 g) rfl rfl <| w_d rfl (Yd (c := (g) % 4294967296) Tryz.underlying113 Tryz.underlying167 rfl rfl) <| rK he fun c98 he => w_d rfl (Y0 (sz := 1) Tryz.underlying22 sz167 rfl h_q.shp rfl c98) <| w_a0 rfl (Zn (kd := kU32) (v := .int .u32 ((g) % 4294967296)) (F := fun z_ => z_ :: i_r_ :: L) sz167 rfl rfl rfl rfl h_q c98 (fun _ => .here)) ?_
 rintro _ _ _ ⟨i99, rfl, rfl, rfl, h100⟩
 refine Qc <| Xp <| QH rfl <| wM (.int .i64 i) rfl rfl <| w_d rfl (YT (c := w64 (i - 1)) rfl rfl rfl) <| wA (.int .i64 (w64 (i - 1))) rfl rfl <| Qc <| Xy <| w_sl 4 (.slice none 0 0) rfl <| w_sl 5 (.slice none 0 0) rfl <| w_sl 8 (.int .i64 n) rfl <| w_sl 9 (v_d) rfl ?_
 refine w_sl 10 (v_r_) rfl <| w_sl 11 (v_q) rfl <| w_sl 12 (.int .i64 (w64 (i - 1))) rfl <| hh.l0 hle he h_d h_r_ h100
theorem QV.b0_ok {k : Nat} {h : QV.Hs} (hh : QV.OK h) {H0 H : Hp} {L : Items} {r : (List Int) × (List Int)} {jk_ : Nat → Value} {n : Int} {d r_ q : List Int} {i : Int} {v_d v_r_ v_q : Value} {i_r_ i_q : Item'} (hle : H0.le H) (he : QV.b0 k h n d r_ q i = some r) (h_d : Ro kU32 H v_d d) (h_r_ : Sl kU32 H 167 i_r_ v_r_ r_) (h_q : Sl kU32 H 167 i_q v_q q) : Wp Tryz.prog 142 86 QV.Kl0 (upd (upd (upd (upd (upd (upd (upd jk_ 4 (.slice none 0 0)) 5 (.slice none 0 0)) 8 (.int .i64 n)) 9 (v_d)) 10 (v_r_)) 11 (v_q)) 12 (.int .i64 i)) H (i_q :: i_r_ :: L) (QV.R H0 L r) := by
 unfold QV.b0 at he
 unfold QV.Kl0
 refine QX <| wR rfl <| wM (.int .i64 i) rfl rfl <| w_d rfl (ZU rfl rfl) <| Qc ?_
 rcases its he with ⟨c62, he⟩ | ⟨c62, he⟩
 ·
  refine QB rfl (dt c62) <| QF <| QX <| Q8 <| wR rfl <| wM v_r_ rfl rfl <| wM v_d rfl rfl <| wM (.int .i64 i) rfl rfl <| bK he fun y63 hy64 he => w_d rfl (Xi (Qj co156 (vs := [v_r_, v_d, .int .i64 i]) rfl (Xc.calls k hy64 (h_r_.src .h1) h_d.src))) <| wA (.int .u64 y63) rfl rfl ?_
  refine wE <| wR rfl <| wM v_r_ rfl rfl <| wM v_d rfl rfl <| wM (.int .i64 i) rfl rfl <| wM (.int .u64 y63) rfl rfl <| bK he fun y67 hy68 he => w_a rfl (Qj co157 (vs := [v_r_, v_d, .int .i64 i, .int .u64 y63]) rfl (NA (F := fun z_ => i_q :: z_ :: L) (QA.calls k hy68 h_r_ h_d.src) .h1 (fun _ => .h1))) ?_
  rintro _ H69 _ ⟨i71, rfl, e70, h72, rfl⟩
  refine Qc ?_
  rcases its he with ⟨c73, he⟩ | ⟨c73, he⟩
  ·
   refine QB rfl c73 <| wR rfl <| wM (.int .u64 y63) rfl rfl <| w_d rfl (YT (c := (y63 - 1) % 18446744073709551616) rfl rfl rfl) <| wA (.int .u64 ((y63 - 1) % 18446744073709551616)) rfl rfl <| Qc <| QH rfl <| wM v_r_ rfl rfl <| wM v_d rfl rfl <| wM (.int .i64 i) rfl rfl <| bK he fun y74 hy75 he => ?_
   refine w_a rfl (Qj co158 (vs := [v_r_, v_d, .int .i64 i]) rfl (NA (F := fun z_ => i_q :: z_ :: L) (Qw.calls k hy75 h72 ((h_d.mono e70).src)) .h1 (fun _ => .h1))) ?_
   rintro _ H76 _ ⟨i78, rfl, e77, h79, rfl⟩
   refine Qc <| w_sl 4 (.slice none 0 0) rfl <| w_sl 5 (.slice none 0 0) rfl <| w_sl 8 (.int .i64 n) rfl <| w_sl 9 (v_d) rfl <| w_sl 10 (v_r_) rfl <| w_sl 11 (v_q) rfl <| w_sl 12 (.int .i64 i) rfl <| w_sl 13 (.int .u64 ((y63 - 1) % 18446744073709551616)) rfl <| QV.j2_ok (k := k) hh (hle.trans (e70.trans e77)) he (h_d.mono (e70.trans e77)) h79 (h_q.mono (e70.trans e77))
  ·
   refine QI rfl (Bool.eq_false_iff.2 c73) <| QF <| w_sl 4 (.slice none 0 0) rfl <| w_sl 5 (.slice none 0 0) rfl <| w_sl 8 (.int .i64 n) rfl <| w_sl 9 (v_d) rfl <| w_sl 10 (v_r_) rfl <| w_sl 11 (v_q) rfl <| w_sl 12 (.int .i64 i) rfl <| w_sl 13 (.int .u64 y63) rfl <| QV.j2_ok (k := k) hh (hle.trans e70) he (h_d.mono e70) h72 (h_q.mono e70)
 ·
  refine QI rfl (df c62) <| Ya rfl <| wR rfl <| wM v_q rfl rfl <| Y8 h_q .here ?_
  intro H80 e81 h82
  refine bK he fun y83 hy84 he => w_a rfl (Qj co113 (vs := [v_q]) rfl (Q3.calls k hy84 h82)) ?_
  rintro v87 H85 _ ⟨rfl, e86, h88⟩
  refine wM v_r_ rfl rfl <| wM (.int .i64 n) rfl rfl <| Y8 (h_r_.mono (e81.trans e86)) .h1 ?_
  intro H89 e90 h91
  refine bK he fun y92 hy93 he => w_a rfl (Qj co118 (vs := [v_r_, .int .i64 n]) rfl (QU.calls k hy93 h91)) ?_
  rintro v96 H94 _ ⟨rfl, e95, h97⟩
  refine wA v87 rfl rfl <| wA v96 rfl rfl <| Qc ?_
  obtain rfl := sj he
  refine Qn fn_142 rs_142 (.tmp (v := v87) rfl (.tmp (v := v96) rfl .nil)) <| ⟨⟨[_, _], rfl⟩, hle.trans (((e81.trans e86).trans e90).trans e95), ⟨v87, v96, rfl, (h88.mono (e90.trans e95)), h97⟩⟩
theorem QV.ok : ∀ k, QV.OK (QV.hs k)
 | 0 => ⟨(by intros; exact nomatch (show none = some _ from by assumption))⟩
 | k + 1 => ⟨QV.b0_ok (k := k) (QV.ok k)⟩
theorem QV.calls (k : Nat) {H : Hp} {L : Items} {a b : List Int} {v0_a v1_b : Value} {r : (List Int) × (List Int)} (he : QV.f k a b = some r) (h0_a : Ro kU32 H v0_a a) (h1_b : Src kU32 H L v1_b b) : Ct Tryz.prog 142 ⟨[v0_a, v1_b]⟩ H L (cR H L (QV.out r)) := by
 refine XS (O := QV.out r) ?_
 have hle : H.le H := .refl _
 have hh := QV.ok k
 unfold QV.f at he
 refine QZ (args := [v0_a, v1_b]) fn_142 rfl nt_142 rfl <| wR rfl <| wA (.slice none 0 0) rfl rfl <| wA (.slice none 0 0) rfl rfl <| wE <| wR rfl <| wM v0_a rfl rfl <| wM v1_b rfl rfl <| bK he fun y1 hy2 he => ?_
 refine w_d rfl (Xi (Qj co137 (vs := [v0_a, v1_b]) rfl (Xb.calls k hy2 h0_a.src h1_b))) <| w_d rfl (XO rfl rfl) <| Qc ?_
 rcases its he with ⟨c5, he⟩ | ⟨c5, he⟩
 ·
  refine QB rfl (dt c5) <| wR rfl <| wM v0_a rfl rfl <| wA (.slice none 0 0) rfl rfl <| wA v0_a rfl rfl <| Qc ?_
  obtain rfl := sj he
  refine Qn fn_142 rs_142 (.tmp (v := .slice none 0 0) rfl (.tmp (v := v0_a) rfl .nil)) <| ⟨⟨[], rfl⟩, hle, ⟨.slice none 0 0, v0_a, rfl, (Q2 _ _), h0_a⟩⟩
 ·
  refine QI rfl (df c5) <| QF <| QX <| wR rfl <| wM v1_b rfl rfl <| w_d rfl (XL Tryz.underlying22 rfl h1_b) <| w_d rfl (Zb rfl rfl) <| Qc ?_
  rcases its he with ⟨c6, he⟩ | ⟨c6, he⟩
  ·
   refine QB rfl (dt c6) <| wR rfl <| wM v0_a rfl rfl <| wM v1_b rfl rfl <| rK he fun c7 he => w_d rfl (XT (sz := 1) Tryz.underlying22 sz167 rfl h1_b rfl c7) <| w_d rfl (XX ty167 rfl h1_b c7) <| bK he fun y8 hy9 he => w_a rfl (Qj co130 (vs := [v0_a, .int .u32 (rd b 0)]) rfl (Q9.calls k hy9 h0_a.src)) ?_
   rintro _ H10 _ ⟨rfl, e11, v12, rfl, h13⟩
   refine wM (.tuple ⟨[v12, .int .u32 y8.2]⟩) rfl rfl <| w_d rfl (QS rfl rfl) <| w_d rfl (QS rfl rfl) <| wA v12 rfl rfl <| wA (.int .u32 y8.2) rfl rfl <| wQ rfl <| wM v12 rfl rfl <| wM (.int .u32 y8.2) rfl rfl <| w_a rfl (o_buildSlice' (kd := kU32) (css := [[.int .u32 y8.2]]) (xs := [y8.2]) (parts := [(0, .int .u32 y8.2)]) Tryz.underlying22 ti167 rfl ⟨_, _, rfl, rfl, rfl⟩ ⟨rfl, trivial⟩ rfl (by decide)) ?_
   rintro v14 _ _ ⟨i15, rfl, rfl, h16⟩
   refine Y8 h16 .here ?_
   intro H17 e18 h19
   refine bK he fun y20 hy21 he => w_a rfl (Qj co113 (vs := [v14]) rfl (Q3.calls k hy21 h19)) ?_
   rintro v24 H22 _ ⟨rfl, e23, h25⟩
   refine wA v12 rfl rfl <| wA v24 rfl rfl <| Qc ?_
   obtain rfl := sj he
   refine Qn fn_142 rs_142 (.tmp (v := v12) rfl (.tmp (v := v24) rfl .nil)) <| ⟨⟨[_], rfl⟩, hle.trans ((e11.trans e18).trans e23), ⟨v12, v24, rfl, (h13.mono (e18.trans e23)), h25⟩⟩
  ·
   refine QI rfl (df c6) <| QF <| wR rfl <| wM v1_b rfl rfl <| wM v1_b rfl rfl <| w_d rfl (XL Tryz.underlying22 rfl h1_b) <| w_d rfl (YT (c := w64 ((b.length : Int) - 1)) rfl rfl rfl) <| rK he fun c26 he => w_d rfl (XT (sz := 1) Tryz.underlying22 sz167 rfl h1_b rfl c26) <| w_d rfl (XX ty167 rfl h1_b c26) <| bK he fun y27 hy28 he => ?_
   refine w_d rfl (Xi (Qj co155 (vs := [.int .u32 (rd b (w64 ((b.length : Int) - 1)))]) rfl (XZ.calls k hy28))) <| wA (.int .i64 y27) rfl rfl <| wQ rfl <| wM v1_b rfl rfl <| wM (.int .i64 y27) rfl rfl <| bK he fun y31 hy32 he => w_a rfl (Qj co114 (vs := [v1_b, .int .i64 y27]) rfl (Xu.calls k hy32 h1_b)) ?_
   rintro v37 H33 _ ⟨i38, rfl, e34, h39⟩
   refine Y8 h39 .here ?_
   intro H40 e41 h42
   refine bK he fun y43 hy44 he => w_a rfl (Qj co113 (vs := [v37]) rfl (Q3.calls k hy44 h42)) ?_
   rintro v47 H45 _ ⟨rfl, e46, h48⟩
   refine wA v47 rfl rfl <| wQ rfl <| wM v0_a rfl rfl <| wM (.int .i64 y27) rfl rfl <| bK he fun y49 hy50 he => w_a rfl (Qj co114 (vs := [v0_a, .int .i64 y27]) rfl (Xu.calls k hy50 ((h0_a.mono ((e34.trans e41).trans e46)).src))) ?_
   rintro v55 H51 _ ⟨i56, rfl, e52, h57⟩
   refine wA v55 rfl rfl <| wQ rfl <| wM v55 rfl rfl <| w_d rfl (GN Tryz.underlying22 rfl h57.shp) <| wM v47 rfl rfl <| w_d rfl (XL Tryz.underlying22 rfl (h48.mono e52).src) <| w_d rfl (YT (c := w64 ((y49.length : Int) - (y43.length : Int))) rfl rfl rfl) <| rK he fun c58 he => w_a rfl (o_make' (kd := kU32) (z0 := 0) Tryz.underlying22 ti167 (zp167 _) rfl rfl (by omega) (by omega) (by omega)) ?_
   rintro v59 _ _ ⟨i60, rfl, rfl, h61⟩
   refine wA v59 rfl rfl <| wE <| wR rfl <| wM v59 rfl rfl <| w_d rfl (GN Tryz.underlying22 rfl h61.shp) <| w_d rfl (YT (c := w64 (((List.replicate (w64 ((y49.length : Int) - (y43.length : Int)) : Int).toNat (0 : Int)).length : Int) - 1)) rfl rfl rfl) <| wA (.int .i64 (w64 (((List.replicate (w64 ((y49.length : Int) - (y43.length : Int)) : Int).toNat (0 : Int)).length : Int) - 1))) rfl rfl <| Qc <| Q8 <| Ye ?_
   refine Yw .h2 <| w_sl 4 (.slice none 0 0) rfl <| w_sl 5 (.slice none 0 0) rfl <| w_sl 8 (.int .i64 y27) rfl <| w_sl 9 (v47) rfl <| w_sl 10 (v55) rfl <| w_sl 11 (v59) rfl <| w_sl 12 (.int .i64 (w64 (((List.replicate (w64 ((y49.length : Int) - (y43.length : Int)) : Int).toNat (0 : Int)).length : Int) - 1))) rfl <| hh.l0 (hle.trans (((e34.trans e41).trans e46).trans e52)) he (h48.mono e52) h57 h61
noncomputable def XR.C : Code := (Tryz.f71.body).getD .skip
def XR.out (r : Qu) (H : Hp) (v : Value) : Prop := ∃ v0, v = (Qd r v0) ∧ Ro kU32 H v0 r.f_w
theorem XR.out_mono (r : Qu) {H H' : Hp} {v : Value} (hle : H.le H') (h : XR.out r H v) : XR.out r H' v := by
 obtain ⟨v0, rfl, h0⟩ := h; exact ⟨v0, rfl, h0.mono hle⟩
abbrev XR.R (H0 : Hp) (L : Items) (r : Qu) := fR H0 L (XR.out r)
noncomputable def XR.j1 (k : Nat) (n v_ : Int) : Option Qu := (Q3.f k [(v_) % 4294967296, (v_ / 4294967296) % 4294967296]).bind fun y9 => some (⟨decide (n < 0), y9⟩)
noncomputable def XR.f (k : Nat) (n : Int) : Option Qu := if n < 0 then (XR.j1 k n ((0 - ((n) % 18446744073709551616)) % 18446744073709551616)) else (XR.j1 k n ((n) % 18446744073709551616))
theorem XR.j1_mono {k : Nat} : ∀ y0 y1, LeO (XR.j1 k y0 y1) (XR.j1 (k + 1) y0 y1) := fun _ _ => (LeO.bind (Q3.mono k _) fun _ => LeO.refl _)
theorem XR.mono : ∀ k y0, LeO (XR.f k y0) (XR.f (k + 1) y0) := fun k _ => by unfold XR.f; exact (LeO.ite (XR.j1_mono (k := k)  _ _) (XR.j1_mono (k := k)  _ _))
noncomputable def XR.Kj1 : List Item := .code (seqR (seqR (seqR XR.C))) :: []
theorem XR.j1_ok {k : Nat} {H0 H : Hp} {L : Items} {r : Qu} {jk_ : Nat → Value} {n v_ : Int} {b_t2 : Nat} (hle : H0.le H) (he : XR.j1 k n v_ = some r) : Wp Tryz.prog 71 20 XR.Kj1 (upd (upd (upd jk_ 0 (.int .i64 n)) 2 (pt b_t2)) 3 (.int .u64 v_)) H (bx b_t2 [.bool false, .slice none 0 0] 24 :: L) (XR.R H0 L r) := by
 unfold XR.j1 at he
 unfold XR.Kj1
 refine wR rfl <| wM (.int .i64 n) rfl rfl <| w_d rfl (XO rfl rfl) <| wM (.int .u64 v_) rfl rfl <| w_d rfl (Yd (c := (v_) % 4294967296) Tryz.underlying113 Tryz.underlying167 rfl rfl) <| wM (.int .u64 v_) rfl rfl <| w_d rfl (Ju (c := v_ / 4294967296) rfl rfl (by decide) rfl) <| w_d rfl (Yd (c := (v_ / 4294967296) % 4294967296) Tryz.underlying113 Tryz.underlying167 rfl rfl) <| w_a rfl (o_buildSlice' (kd := kU32) (css := [[.int .u32 ((v_) % 4294967296)], [.int .u32 ((v_ / 4294967296) % 4294967296)]]) (xs := [(v_) % 4294967296, (v_ / 4294967296) % 4294967296]) (parts := [(0, .int .u32 ((v_) % 4294967296)), (1, .int .u32 ((v_ / 4294967296) % 4294967296))]) Tryz.underlying22 ti167 rfl ⟨_, _, rfl, rfl, ⟨_, _, rfl, rfl, rfl⟩⟩ ⟨rfl, ⟨rfl, trivial⟩⟩ rfl (by decide)) ?_
 rintro v3 _ _ ⟨i4, rfl, rfl, h5⟩
 refine Y8 h5 .here ?_
 intro H6 e7 h8
 refine bK he fun y9 hy10 he => w_a rfl (Qj co113 (vs := [v3]) rfl (Q3.calls k hy10 h8)) ?_
 rintro v13 H11 _ ⟨rfl, e12, h14⟩
 refine w_d rfl (Xx (cs' := [.bool (decide (n < 0)), v13]) Tryz.underlying24 zr24 rfl (by kernel_rfl) (parts := [(0, .bool (decide (n < 0))), (1, v13)]) rfl (.cons (X2 rfl sz4 rfl) rfl rfl u1 (.cons (X2 rfl sz22 rfl) h14.cells rfl (.there u1) .nil))) <| wS (.agg ⟨[.bool (decide (n < 0)), v13]⟩) sz24 rfl rfl rfl rfl rfl (oc rfl (oc (h14.one) oz)) .h1 u2 <| Qc ?_
 obtain rfl := sj he
 refine Qn fn_71 rs_71 (.box (v := .agg ⟨[.bool (decide (n < 0)), v13]⟩) rfl ty24 rfl rfl .h1 rfl .nil) <| ⟨⟨[_, _], rfl⟩, hle.trans (e7.trans e12), ⟨v13, rfl, h14⟩⟩
theorem XR.calls (k : Nat) {H : Hp} {L : Items} {n : Int} {r : Qu} (he : XR.f k n = some r) : Ct Tryz.prog 71 ⟨[.int .i64 n]⟩ H L (cR H L (XR.out r)) := by
 refine XS (O := XR.out r) ?_
 have hle : H.le H := .refl _
 unfold XR.f at he
 refine QZ (args := [.int .i64 n]) fn_71 rfl nt_71 rfl <| wR rfl <| wN zr24 rfl rfl fun b1 => wQ rfl <| wM (.int .i64 n) rfl rfl <| w_d rfl (Yd (c := (n) % 18446744073709551616) Tryz.underlying2 Tryz.underlying113 rfl rfl) <| wA (.int .u64 ((n) % 18446744073709551616)) rfl rfl <| wE ?_
 refine wR rfl <| wM (.int .i64 n) rfl rfl <| w_d rfl (XO rfl rfl) <| Qc ?_
 rcases its he with ⟨c2, he⟩ | ⟨c2, he⟩
 ·
  refine QB rfl (dt c2) <| QH rfl <| wM (.int .u64 ((n) % 18446744073709551616)) rfl rfl <| w_d rfl (MG (c := (0 - ((n) % 18446744073709551616)) % 18446744073709551616) rfl rfl) <| wA (.int .u64 ((0 - ((n) % 18446744073709551616)) % 18446744073709551616)) rfl rfl <| Qc <| w_sl 0 (.int .i64 n) rfl <| w_sl 2 (pt b1) rfl <| w_sl 3 (.int .u64 ((0 - ((n) % 18446744073709551616)) % 18446744073709551616)) rfl <| XR.j1_ok (k := k) hle he
 ·
  refine QI rfl (df c2) <| QF <| w_sl 0 (.int .i64 n) rfl <| w_sl 2 (pt b1) rfl <| w_sl 3 (.int .u64 ((n) % 18446744073709551616)) rfl <| XR.j1_ok (k := k) hle he
noncomputable def Y6.C : Code := (Tryz.f159.body).getD .skip
def Y6.out (r : Int × Int) (H : Hp) (v : Value) : Prop := v = .tuple ⟨[.int .u32 r.1, .int .u32 r.2]⟩
noncomputable def Y6.f (k : Nat) (x y borrow : Int) : Option (Int × Int) := some ((((x - y) % 4294967296) - borrow) % 4294967296, (ior .u32 (iand .u32 (ixor .u32 4294967295 x) y) (iand .u32 (ixor .u32 4294967295 (ixor .u32 x y)) ((((x - y) % 4294967296) - borrow) % 4294967296))) / 2147483648)
theorem Y6.mono : ∀ k y0 y1 y2, LeO (Y6.f k y0 y1 y2) (Y6.f (k + 1) y0 y1 y2) := fun k _ _ _ => by unfold Y6.f; exact (LeO.refl _)
theorem Y6.calls (k : Nat) {H : Hp} {L : Items} {x y borrow : Int} {r : Int × Int} (he : Y6.f k x y borrow = some r) : Ct Tryz.prog 159 ⟨[.int .u32 x, .int .u32 y, .int .u32 borrow]⟩ H L (fun v H' L' => L = L' ∧ H = H' ∧ v = .tuple ⟨[.int .u32 r.1, .int .u32 r.2]⟩) := by
 refine Yr (O := Y6.out r) (fun _ _ h => h) ?_
 have hle : H.le H := .refl _
 unfold Y6.f at he
 refine QZ (args := [.int .u32 x, .int .u32 y, .int .u32 borrow]) fn_159 rfl nt_159 rfl <| wR rfl <| wA (.int .u32 0) rfl rfl <| wA (.int .u32 0) rfl rfl <| wQ rfl <| wM (.int .u32 x) rfl rfl <| wM (.int .u32 y) rfl rfl <| w_d rfl (YT (c := (x - y) % 4294967296) rfl rfl rfl) <| wM (.int .u32 borrow) rfl rfl ?_
 refine w_d rfl (YT (c := (((x - y) % 4294967296) - borrow) % 4294967296) rfl rfl rfl) <| wA (.int .u32 ((((x - y) % 4294967296) - borrow) % 4294967296)) rfl rfl <| wQ rfl <| wM (.int .u32 x) rfl rfl <| w_d rfl (VV rfl) <| wM (.int .u32 y) rfl rfl <| w_d rfl (NE rfl rfl) <| wM (.int .u32 x) rfl rfl <| wM (.int .u32 y) rfl rfl <| w_d rfl (W1 rfl rfl) ?_
 refine w_d rfl (VV rfl) <| wM (.int .u32 ((((x - y) % 4294967296) - borrow) % 4294967296)) rfl rfl <| w_d rfl (NE rfl rfl) <| w_d rfl (Md rfl rfl) <| w_d rfl (Ju (c := (ior .u32 (iand .u32 (ixor .u32 4294967295 x) y) (iand .u32 (ixor .u32 4294967295 (ixor .u32 x y)) ((((x - y) % 4294967296) - borrow) % 4294967296))) / 2147483648) rfl rfl (by decide) rfl) <| wA (.int .u32 ((ior .u32 (iand .u32 (ixor .u32 4294967295 x) y) (iand .u32 (ixor .u32 4294967295 (ixor .u32 x y)) ((((x - y) % 4294967296) - borrow) % 4294967296))) / 2147483648)) rfl rfl <| Qc ?_
 obtain rfl := sj he
 refine Qn fn_159 rs_159 (.tmp (v := .int .u32 ((((x - y) % 4294967296) - borrow) % 4294967296)) rfl (.tmp (v := .int .u32 ((ior .u32 (iand .u32 (ixor .u32 4294967295 x) y) (iand .u32 (ixor .u32 4294967295 (ixor .u32 x y)) ((((x - y) % 4294967296) - borrow) % 4294967296))) / 2147483648)) rfl .nil)) <| ⟨⟨[], rfl⟩, hle, rfl⟩
noncomputable def QQ.C : Code := (Tryz.f143.body).getD .skip
abbrev QQ.out (r : (List Int)) (H : Hp) (v : Value) : Prop := Ro kU32 H v r
abbrev QQ.R (H0 : Hp) (L : Items) (r : (List Int)) := fR H0 L (QQ.out r)
structure QQ.Hs where
 l0 : (List Int) → (List Int) → Int → (List Int) → Int → Int → Option (List Int)
noncomputable def QQ.j2 (k : Nat) (h : QQ.Hs) (b out : List Int) (borrow x y : Int) (t14 : List Int) (t15 t16 : Int) : Option (List Int) := (Y6.f k x y borrow).bind fun y18 => if out.length + 1 ≤ 35184372088704 then (h.l0 b (out ++ [y18.1]) y18.2 t14 t15 (w64 (t16 + 1))) else none
noncomputable def QQ.b0 (k : Nat) (h : QQ.Hs) (b out : List Int) (borrow : Int) (t14 : List Int) (t15 t16 : Int) : Option (List Int) := if t16 < t15 then (if (0 : Int) ≤ t16 ∧ t16 < (t14.length : Int) then (if t16 < (b.length : Int) then (if (0 : Int) ≤ t16 ∧ t16 < (b.length : Int) then (QQ.j2 k h b out borrow (rd t14 t16) (rd b t16) t14 t15 t16) else none) else (QQ.j2 k h b out borrow (rd t14 t16) 0 t14 t15 t16)) else none) else ((Q3.f k out).bind fun y12 => some (y12))
noncomputable def QQ.hs : Nat → QQ.Hs
 | 0 => ⟨fun _ _ _ _ _ _ => none⟩
 | k + 1 => ⟨fun x0 x1 x2 x3 x4 x5 => QQ.b0 k (QQ.hs k) x0 x1 x2 x3 x4 x5⟩
noncomputable def QQ.f (k : Nat) (a b : List Int) : Option (List Int) := (fun h : QQ.Hs => if 0 ≤ 0 ∧ 0 ≤ (a.length : Int) ∧ (a.length : Int) ≤ 70368744177664 then (h.l0 b (List.replicate (0 : Int).toNat (0 : Int)) 0 a (a.length : Int) 0) else none) (QQ.hs k)
structure QQ.LE (h h' : QQ.Hs) : Prop where
 l0 : ∀ y0 y1 y2 y3 y4 y5, LeO (h.l0 y0 y1 y2 y3 y4 y5) (h'.l0 y0 y1 y2 y3 y4 y5)
theorem QQ.j2_mono {k : Nat} {h h' : QQ.Hs} (hl : QQ.LE h h') : ∀ y0 y1 y2 y3 y4 y5 y6 y7, LeO (QQ.j2 k h y0 y1 y2 y3 y4 y5 y6 y7) (QQ.j2 (k + 1) h' y0 y1 y2 y3 y4 y5 y6 y7) := fun _ _ _ _ _ _ _ _ => (LeO.bind (Y6.mono k _ _ _) fun _ => LeO.ite (hl.l0 _ _ _ _ _ _) (LeO.refl _))
theorem QQ.b0_mono {k : Nat} {h h' : QQ.Hs} (hl : QQ.LE h h') : ∀ y0 y1 y2 y3 y4 y5, LeO (QQ.b0 k h y0 y1 y2 y3 y4 y5) (QQ.b0 (k + 1) h' y0 y1 y2 y3 y4 y5) := fun _ _ _ _ _ _ => (LeO.ite (LeO.ite (LeO.ite (LeO.ite (QQ.j2_mono (k := k) hl _ _ _ _ _ _ _ _) (LeO.refl _)) (QQ.j2_mono (k := k) hl _ _ _ _ _ _ _ _)) (LeO.refl _)) (LeO.bind (Q3.mono k _) fun _ => LeO.refl _))
theorem QQ.hs_mono : ∀ k, QQ.LE (QQ.hs k) (QQ.hs (k + 1))
 | 0 => ⟨fun _ _ _ _ _ _ => LeO.none _⟩
 | k + 1 => ⟨QQ.b0_mono (k := k) (QQ.hs_mono k)⟩
theorem QQ.mono : ∀ k y0 y1, LeO (QQ.f k y0 y1) (QQ.f (k + 1) y0 y1) := fun k _ _ => have hl := QQ.hs_mono k; by unfold QQ.f; exact (LeO.ite (hl.l0 _ _ _ _ _ _) (LeO.refl _))
noncomputable def QQ.Kl0 : List Item := .code (lopB (blkB (seqR (seqL (seqR (seqR (seqR QQ.C))))))) :: .inLoop (lopB (blkB (seqR (seqL (seqR (seqR (seqR QQ.C))))))) :: .inBlock 0 :: .code (seqR (seqR (seqR (seqR QQ.C)))) :: []
noncomputable def QQ.Kj2 : List Item := .code (seqR (seqR (seqR (blkB (seqL (seqR (seqR (lopB (blkB (seqR (seqL (seqR (seqR (seqR QQ.C)))))))))))))) :: .inBlock 1 :: .code (seqR (seqR (seqR (lopB (blkB (seqR (seqL (seqR (seqR (seqR QQ.C)))))))))) :: .inLoop (lopB (blkB (seqR (seqL (seqR (seqR (seqR QQ.C))))))) :: .inBlock 0 :: .code (seqR (seqR (seqR (seqR QQ.C)))) :: []
structure QQ.OK (h : QQ.Hs) : Prop where
 l0 : ∀ {H0 H : Hp} {L : Items} {r : (List Int)} {jk_ : Nat → Value} {b : List Int} {out : List Int} {borrow : Int} {t14 : List Int} {t15 : Int} {t16 : Int} {v_b : Value} {v_out : Value} {v_t14 : Value} {i_out : Item'} (_ : H0.le H) (_he : h.l0 b out borrow t14 t15 t16 = some r) (_h_b : Src kU32 H L v_b b) (_h_out : Sl kU32 H 167 i_out v_out out) (_h_t14 : Src kU32 H L v_t14 t14), Wp Tryz.prog 143 43 QQ.Kl0 (upd (upd (upd (upd (upd (upd (upd jk_ 1 (v_b)) 4 (.slice none 0 0)) 5 (v_out)) 6 (.int .u32 borrow)) 14 (v_t14)) 15 (.int .i64 t15)) 16 (.int .i64 t16)) H (i_out :: L) (QQ.R H0 L r)
theorem QQ.j2_ok {k : Nat} {h : QQ.Hs} (hh : QQ.OK h) {H0 H : Hp} {L : Items} {r : (List Int)} {jk_ : Nat → Value} {b out : List Int} {borrow x y : Int} {t14 : List Int} {t15 t16 : Int} {v_b v_out v_t14 : Value} {i_out : Item'} (hle : H0.le H) (he : QQ.j2 k h b out borrow x y t14 t15 t16 = some r) (h_b : Src kU32 H L v_b b) (h_out : Sl kU32 H 167 i_out v_out out) (h_t14 : Src kU32 H L v_t14 t14) : Wp Tryz.prog 143 43 QQ.Kj2 (upd (upd (upd (upd (upd (upd (upd (upd (upd jk_ 1 (v_b)) 4 (.slice none 0 0)) 5 (v_out)) 6 (.int .u32 borrow)) 8 (.int .u32 x)) 9 (.int .u32 y)) 14 (v_t14)) 15 (.int .i64 t15)) 16 (.int .i64 t16)) H (i_out :: L) (QQ.R H0 L r) := by
 unfold QQ.j2 at he
 unfold QQ.Kj2
 refine wR rfl <| wA (.int .u32 0) rfl rfl <| wQ rfl <| wM (.int .u32 x) rfl rfl <| wM (.int .u32 y) rfl rfl <| wM (.int .u32 borrow) rfl rfl <| bK he fun y18 hy19 he => w_d rfl (Xi (Qj co159 (vs := [.int .u32 x, .int .u32 y, .int .u32 borrow]) rfl (Y6.calls k hy19))) <| wM (.tuple ⟨[.int .u32 y18.1, .int .u32 y18.2]⟩) rfl rfl ?_
 refine w_d rfl (QS rfl rfl) <| w_d rfl (QS rfl rfl) <| wA (.int .u32 y18.1) rfl rfl <| wA (.int .u32 y18.2) rfl rfl <| Qc <| QH rfl <| wM v_out rfl rfl <| wM (.int .u32 y18.1) rfl rfl <| w_a rfl (o_buildSlice' (kd := kU32) (css := [[.int .u32 y18.1]]) (xs := [y18.1]) (parts := [(0, .int .u32 y18.1)]) Tryz.underlying22 ti167 rfl ⟨_, _, rfl, rfl, rfl⟩ ⟨rfl, trivial⟩ rfl (by decide)) ?_
 rintro v22 _ _ ⟨i23, rfl, rfl, h24⟩
 refine rK he fun c25 he => w_a rfl (o_append' (kd := kU32) (F := fun z_ => i23 :: z_ :: L) Tryz.underlying22 Tryz.underlying22 ti167 rfl (by first | omega | (simp only [List.nil_append, List.length_cons, List.length_nil]; omega)) rfl rfl h_out (h24.src .here) (fun _ => .h1)) ?_
 rintro v26 _ _ ⟨i27, rfl, rfl, h28⟩
 refine wA v26 rfl rfl <| Qc <| Xp <| QH rfl <| w_d rfl (XG (c := w64 (t16 + 1)) rfl rfl rfl) <| wM (.int .i64 (w64 (t16 + 1))) rfl rfl <| Qc <| Xy <| Yw .here <| w_sl 1 (v_b) rfl <| w_sl 4 (.slice none 0 0) rfl <| w_sl 5 (v26) rfl ?_
 refine w_sl 6 (.int .u32 y18.2) rfl <| w_sl 14 (v_t14) rfl <| w_sl 15 (.int .i64 t15) rfl <| w_sl 16 (.int .i64 (w64 (t16 + 1))) rfl <| hh.l0 hle he h_b h28 h_t14
theorem QQ.b0_ok {k : Nat} {h : QQ.Hs} (hh : QQ.OK h) {H0 H : Hp} {L : Items} {r : (List Int)} {jk_ : Nat → Value} {b out : List Int} {borrow : Int} {t14 : List Int} {t15 t16 : Int} {v_b v_out v_t14 : Value} {i_out : Item'} (hle : H0.le H) (he : QQ.b0 k h b out borrow t14 t15 t16 = some r) (h_b : Src kU32 H L v_b b) (h_out : Sl kU32 H 167 i_out v_out out) (h_t14 : Src kU32 H L v_t14 t14) : Wp Tryz.prog 143 43 QQ.Kl0 (upd (upd (upd (upd (upd (upd (upd jk_ 1 (v_b)) 4 (.slice none 0 0)) 5 (v_out)) 6 (.int .u32 borrow)) 14 (v_t14)) 15 (.int .i64 t15)) 16 (.int .i64 t16)) H (i_out :: L) (QQ.R H0 L r) := by
 unfold QQ.b0 at he
 unfold QQ.Kl0
 refine wR rfl <| w_d rfl (XO rfl rfl) <| wE ?_
 rcases its he with ⟨c5, he⟩ | ⟨c5, he⟩
 ·
  refine QB rfl (dt c5) <| QF <| QX <| Q8 <| wR rfl <| wM (.int .i64 t16) rfl rfl <| rK he fun c6 he => w_d rfl (XT (sz := 1) Tryz.underlying22 sz167 rfl h_t14.th rfl c6) <| w_d rfl (XX ty167 rfl h_t14.th c6) <| wA (.int .i64 t16) rfl rfl <| wA (.int .u32 (rd t14 t16)) rfl rfl ?_
  refine wQ rfl <| wA (.int .u32 0) rfl rfl <| wE <| wR rfl <| wM (.int .i64 t16) rfl rfl <| wM v_b rfl rfl <| w_d rfl (XL Tryz.underlying22 rfl h_b.th) <| w_d rfl (XO rfl rfl) ?_
  refine Qc ?_
  rcases its he with ⟨c7, he⟩ | ⟨c7, he⟩
  ·
   refine QB rfl (dt c7) <| QH rfl <| wM v_b rfl rfl <| wM (.int .i64 t16) rfl rfl <| rK he fun c8 he => w_d rfl (XT (sz := 1) Tryz.underlying22 sz167 rfl h_b.th rfl c8) <| w_d rfl (XX ty167 rfl h_b.th c8) <| wA (.int .u32 (rd b t16)) rfl rfl <| Qc <| w_sl 1 (v_b) rfl <| w_sl 4 (.slice none 0 0) rfl <| w_sl 5 (v_out) rfl ?_
   refine w_sl 6 (.int .u32 borrow) rfl <| w_sl 8 (.int .u32 (rd t14 t16)) rfl <| w_sl 9 (.int .u32 (rd b t16)) rfl <| w_sl 14 (v_t14) rfl <| w_sl 15 (.int .i64 t15) rfl <| w_sl 16 (.int .i64 t16) rfl <| QQ.j2_ok (k := k) hh hle he h_b h_out h_t14
  ·
   refine QI rfl (df c7) <| QF <| w_sl 1 (v_b) rfl <| w_sl 4 (.slice none 0 0) rfl <| w_sl 5 (v_out) rfl <| w_sl 6 (.int .u32 borrow) rfl <| w_sl 8 (.int .u32 (rd t14 t16)) rfl <| w_sl 9 (.int .u32 0) rfl <| w_sl 14 (v_t14) rfl <| w_sl 15 (.int .i64 t15) rfl <| w_sl 16 (.int .i64 t16) rfl <| QQ.j2_ok (k := k) hh hle he h_b h_out h_t14
 ·
  refine QI rfl (df c5) <| Ya rfl <| wR rfl <| wM v_out rfl rfl <| Y8 h_out .here ?_
  intro H9 e10 h11
  refine bK he fun y12 hy13 he => w_a rfl (Qj co113 (vs := [v_out]) rfl (Q3.calls k hy13 h11)) ?_
  rintro v16 H14 _ ⟨rfl, e15, h17⟩
  refine wA v16 rfl rfl <| Qc ?_
  obtain rfl := sj he
  refine Qn fn_143 rs_143 (.tmp (v := v16) rfl .nil) <| ⟨⟨[_], rfl⟩, hle.trans (e10.trans e15), h17⟩
theorem QQ.ok : ∀ k, QQ.OK (QQ.hs k)
 | 0 => ⟨(by intros; exact nomatch (show none = some _ from by assumption))⟩
 | k + 1 => ⟨QQ.b0_ok (k := k) (QQ.ok k)⟩
theorem QQ.calls (k : Nat) {H : Hp} {L : Items} {a b : List Int} {v0_a v1_b : Value} {r : (List Int)} (he : QQ.f k a b = some r) (h0_a : Src kU32 H L v0_a a) (h1_b : Src kU32 H L v1_b b) : Ct Tryz.prog 143 ⟨[v0_a, v1_b]⟩ H L (cR H L (QQ.out r)) := by
 refine XS (O := QQ.out r) ?_
 have hle : H.le H := .refl _
 have hh := QQ.ok k
 unfold QQ.f at he
 refine QZ (args := [v0_a, v1_b]) fn_143 rfl nt_143 rfl <| wR rfl <| wA (.slice none 0 0) rfl rfl <| wQ rfl <| wM v0_a rfl rfl <| w_d rfl (XL Tryz.underlying22 rfl h0_a) <| rK he fun c1 he => w_a rfl (o_make' (kd := kU32) (z0 := 0) Tryz.underlying22 ti167 (zp167 _) rfl rfl (by omega) (by omega) (by omega)) ?_
 rintro v2 _ _ ⟨i3, rfl, rfl, h4⟩
 refine wA v2 rfl rfl <| wQ rfl <| wA (.int .u32 0) rfl rfl <| wE <| wR rfl <| wM v0_a rfl rfl <| w_d rfl (XL Tryz.underlying22 rfl h0_a.th) <| wM (.int .i64 0) rfl rfl ?_
 refine Qc <| Q8 <| Ye <| w_sl 1 (v1_b) rfl <| w_sl 4 (.slice none 0 0) rfl <| w_sl 5 (v2) rfl <| w_sl 6 (.int .u32 0) rfl <| w_sl 14 (v0_a) rfl <| w_sl 15 (.int .i64 (a.length : Int)) rfl <| w_sl 16 (.int .i64 0) rfl <| hh.l0 hle he h1_b h4 h0_a
noncomputable def Xl.C : Code := (Tryz.f127.body).getD .skip
def Xl.out (r : Qu × (Option Int)) (H : Hp) (v : Value) : Prop := ∃ v0, v = .tuple ⟨[(Qd r.1 v0), errV 104 r.2]⟩ ∧ Ro kU32 H v0 r.1.f_w
theorem Xl.out_mono (r : Qu × (Option Int)) {H H' : Hp} {v : Value} (hle : H.le H') (h : Xl.out r H v) : Xl.out r H' v := by
 obtain ⟨v0, rfl, h0⟩ := h; exact ⟨v0, rfl, h0.mono hle⟩
abbrev Xl.R (H0 : Hp) (L : Items) (r : Qu × (Option Int)) := fR H0 L (Xl.out r)
noncomputable def Xl.j1 (k : Nat) (a_0 : Bool) (a_1 : List Int) (b_0 : Bool) (b_1 : List Int) : Option (Qu × (Option Int)) := (QQ.f k a_1 b_1).bind fun y26 => (XN.f k a_0 y26).bind fun y32 => some (y32.1, y32.2)
noncomputable def Xl.f (k : Nat) (a b : Qu) : Option (Qu × (Option Int)) := if (a.f_neg == b.f_neg) = true then ((Qz.f k a.f_w b.f_w).bind fun y5 => (XN.f k a.f_neg y5).bind fun y11 => some (y11.1, y11.2)) else ((Xb.f k a.f_w b.f_w).bind fun y21 => if y21 < 0 then (Xl.j1 k b.f_neg b.f_w a.f_neg a.f_w) else (Xl.j1 k a.f_neg a.f_w b.f_neg b.f_w))
theorem Xl.j1_mono {k : Nat} : ∀ y0 y1 y2 y3, LeO (Xl.j1 k y0 y1 y2 y3) (Xl.j1 (k + 1) y0 y1 y2 y3) := fun _ _ _ _ => (LeO.bind (QQ.mono k _ _) fun _ => LeO.bind (XN.mono k _ _) fun _ => LeO.refl _)
theorem Xl.mono : ∀ k y0 y1, LeO (Xl.f k y0 y1) (Xl.f (k + 1) y0 y1) := fun k _ _ => by unfold Xl.f; exact (LeO.ite (LeO.bind (Qz.mono k _ _) fun _ => LeO.bind (XN.mono k _ _) fun _ => LeO.refl _) (LeO.bind (Xb.mono k _ _) fun _ => LeO.ite (Xl.j1_mono (k := k)  _ _ _ _) (Xl.j1_mono (k := k)  _ _ _ _)))
noncomputable def Xl.Kj1 : List Item := .code (seqR (seqR (seqR Xl.C))) :: []
theorem Xl.j1_ok {k : Nat} {H0 H : Hp} {L : Items} {r : Qu × (Option Int)} {jk_ : Nat → Value} {a_0 : Bool} {a_1 : List Int} {b_0 : Bool} {b_1 : List Int} {v_a_1 v_b_1 : Value} {b_a b_b b_t4 : Nat} (hle : H0.le H) (he : Xl.j1 k a_0 a_1 b_0 b_1 = some r) (h_a_1 : Ro kU32 H v_a_1 a_1) (h_b_1 : Ro kU32 H v_b_1 b_1) : Wp Tryz.prog 127 39 Xl.Kj1 (upd (upd (upd (upd jk_ 2 (pt b_a)) 3 (pt b_b)) 4 (pt b_t4)) 5 (errV 104 none)) H (bx b_t4 [.bool false, .slice none 0 0] 24 :: bx b_b [.bool b_0, v_b_1] 24 :: bx b_a [.bool a_0, v_a_1] 24 :: L) (Xl.R H0 L r) := by
 unfold Xl.j1 at he
 unfold Xl.Kj1
 refine QX <| bK he fun y26 hy27 he => bK he fun y32 hy33 he => Xv (p := 10) (tl := [10, 11]) [[], [(0, some 29)], [], [(2, some 31)], [], [(4, some 33)], [(3, some 32), (5, some 34)], [(1, some 30), (6, some 35)], [(7, some 36)], [(7, some 36)]] [some 29, some 30, some 31, some 32, some 33, some 34, some 35, some 36, some 37, some 38] (fctF (.is (pt b_a) :: .is (.bool a_0) :: .is (po b_a 1) :: .is (v_a_1) :: .is (po b_b 1) :: .is (v_b_1) :: .ro kU32 (y26) :: .of (XN.out y32) (XN.out_mono _) :: .of (fun H v => ∃ v38, v = (Qd y32.1 v38) ∧ Ro kU32 H v38 y32.1.f_w) (by rintro _ _ _ hle ⟨v38, rfl, h39⟩; exact ⟨v38, rfl, h39.mono hle⟩) :: .is (errV 104 y32.2) :: [])) (fun m_ => bx b_t4 [.bool false, .slice none 0 0] 24 :: bx b_b [.bool b_0, v_b_1] 24 :: bx b_a [.bool a_0, v_a_1] 24 :: L) (fun _ => none) mixed (by kernel_rfl) (by kernel_rfl) rfl (Xn (by kernel_rfl)) ⟨(fun H' m_ hH hm_ hu_ => dn <| s_d (m_ 0) rfl (QM (o' := 0) Tryz.underlying24 rfl sz4 rfl rfl rfl) (by exact rfl) rfl), (by rintro H' m_ hH hm_ hu_ _ rfl; exact dn <| s_d (m_ 1) rfl (Qq (v := .bool a_0) ty4 rfl .h2 rfl rfl rfl rfl) (by exact rfl) rfl), (fun H' m_ hH hm_ hu_ => dn <| s_d (m_ 2) rfl (QM (o' := 1) Tryz.underlying24 rfl sz22 rfl rfl rfl) (by exact rfl) rfl), (by rintro H' m_ hH hm_ hu_ _ rfl; exact dn <| s_d (m_ 3) rfl (Qq (v := v_a_1) ty22 rfl .h2 rfl rfl rfl rfl) (by exact rfl) rfl), (fun H' m_ hH hm_ hu_ => dn <| s_d (m_ 4) rfl (QM (o' := 1) Tryz.underlying24 rfl sz22 rfl rfl rfl) (by exact rfl) rfl), (by rintro H' m_ hH hm_ hu_ _ rfl; exact dn <| s_d (m_ 5) rfl (Qq (v := v_b_1) ty22 rfl .h1 rfl rfl rfl rfl) (by exact rfl) rfl), (by rintro H' m_ hH hm_ hu_ _ rfl _ rfl; exact dn <| s_k (m_ 6) rfl (Qj co143 (vs := [v_a_1, v_b_1]) rfl (QQ.calls k hy27 ((h_a_1.mono hH).src) ((h_b_1.mono hH).src))) rfl (by rintro v_ H_ _ ⟨rfl, e_, h_⟩; exact ⟨rfl, e_, h_⟩)), (by rintro H' m_ hH hm_ hu_ _ rfl v30 (h31 : Ro kU32 H' v30 y26); exact dn <| s_k (m_ 7) rfl (Qj co115 (vs := [.bool a_0, v30]) rfl (XN.calls k hy33 h31)) rfl (by rintro v_ H_ _ ⟨rfl, e_, h_⟩; exact ⟨rfl, e_, h_⟩)), (by rintro H' m_ hH hm_ hu_ _ ⟨v36, rfl, h37⟩; exact dn <| s_d (m_ 8) rfl (QS rfl rfl) (by exact ⟨v36, rfl, h37⟩) rfl), (by rintro H' m_ hH hm_ hu_ _ ⟨v36, rfl, h37⟩; exact dn <| s_d (m_ 9) rfl (QS rfl rfl) (by exact rfl) rfl), trivial⟩ ?_
 intro H40 e41
 rintro _ _ rfl _ _ rfl _ _ rfl _ _ rfl _ _ rfl _ _ rfl v30 _ (h31 : Ro kU32 H40 v30 y26) _ _ ⟨v36, rfl, h37⟩ _ _ ⟨v38, rfl, h39⟩ _ _ rfl
 refine wS (Qd y32.1 v38) sz24 rfl rfl rfl rfl rfl (XF h39) .here u2 <| wA (errV 104 y32.2) rfl rfl <| Qc ?_
 obtain rfl := sj he
 refine Qn fn_127 rs_127 (.box (v := (Qd y32.1 v38)) rfl ty24 rfl rfl .here rfl (.tmp (v := errV 104 y32.2) rfl .nil)) <| ⟨⟨[_, _, _], rfl⟩, hle.trans e41, ⟨v38, rfl, h39⟩⟩
theorem Xl.calls (k : Nat) {H : Hp} {L : Items} {a b : Qu} {v0_a v1_b : Value} {r : Qu × (Option Int)} (he : Xl.f k a b = some r) (h0_a : Ro kU32 H v0_a a.f_w) (h1_b : Ro kU32 H v1_b b.f_w) : Ct Tryz.prog 127 ⟨[(Qd a v0_a), (Qd b v1_b)]⟩ H L (cR H L (Xl.out r)) := by
 refine XS (O := Xl.out r) ?_
 have hle : H.le H := .refl _
 unfold Xl.f at he
 refine QZ (args := [(Qd a v0_a), (Qd b v1_b)]) fn_127 rfl nt_127 rfl <| wR rfl <| wB (Qd a v0_a) rfl rfl rfl <| fun b1 => wB (Qd b v1_b) rfl rfl rfl <| fun b2 => wN zr24 rfl rfl fun b3 => wA (errV 104 none) rfl rfl <| wE <| wR rfl <| w_d rfl (QM (o' := 0) Tryz.underlying24 rfl sz4 rfl rfl rfl) ?_
 refine wL (.bool a.f_neg) ty4 rfl rfl .h2 rfl rfl <| w_d rfl (QM (o' := 0) Tryz.underlying24 rfl sz4 rfl rfl rfl) <| wL (.bool b.f_neg) ty4 rfl rfl .h1 rfl rfl <| w_d rfl (VX (a := a.f_neg) (b := b.f_neg) Tryz.underlying4 rfl rfl) <| Qc ?_
 rcases its he with ⟨c4, he⟩ | ⟨c4, he⟩
 ·
  refine QB rfl c4 <| QX <| bK he fun y5 hy6 he => bK he fun y11 hy12 he => Xv (p := 10) (tl := [10, 11]) [[], [(0, some 11)], [], [(2, some 13)], [], [(4, some 15)], [(3, some 14), (5, some 16)], [(1, some 12), (6, some 17)], [(7, some 18)], [(7, some 18)]] [some 11, some 12, some 13, some 14, some 15, some 16, some 17, some 18, some 19, some 20] (fctF (.is (pt b1) :: .is (.bool a.f_neg) :: .is (po b1 1) :: .is (v0_a) :: .is (po b2 1) :: .is (v1_b) :: .ro kU32 (y5) :: .of (XN.out y11) (XN.out_mono _) :: .of (fun H v => ∃ v17, v = (Qd y11.1 v17) ∧ Ro kU32 H v17 y11.1.f_w) (by rintro _ _ _ hle ⟨v17, rfl, h18⟩; exact ⟨v17, rfl, h18.mono hle⟩) :: .is (errV 104 y11.2) :: [])) (fun m_ => bx b3 [.bool false, .slice none 0 0] 24 :: bx b2 (QW b v1_b) 24 :: bx b1 (QW a v0_a) 24 :: L) (fun _ => none) mixed (by kernel_rfl) (by kernel_rfl) rfl (Xn (by kernel_rfl)) ⟨(fun H' m_ hH hm_ hu_ => dn <| s_d (m_ 0) rfl (QM (o' := 0) Tryz.underlying24 rfl sz4 rfl rfl rfl) (by exact rfl) rfl), (by rintro H' m_ hH hm_ hu_ _ rfl; exact dn <| s_d (m_ 1) rfl (Qq (v := .bool a.f_neg) ty4 rfl .h2 rfl rfl rfl rfl) (by exact rfl) rfl), (fun H' m_ hH hm_ hu_ => dn <| s_d (m_ 2) rfl (QM (o' := 1) Tryz.underlying24 rfl sz22 rfl rfl rfl) (by exact rfl) rfl), (by rintro H' m_ hH hm_ hu_ _ rfl; exact dn <| s_d (m_ 3) rfl (Qq (v := v0_a) ty22 rfl .h2 rfl rfl rfl rfl) (by exact rfl) rfl), (fun H' m_ hH hm_ hu_ => dn <| s_d (m_ 4) rfl (QM (o' := 1) Tryz.underlying24 rfl sz22 rfl rfl rfl) (by exact rfl) rfl), (by rintro H' m_ hH hm_ hu_ _ rfl; exact dn <| s_d (m_ 5) rfl (Qq (v := v1_b) ty22 rfl .h1 rfl rfl rfl rfl) (by exact rfl) rfl), (by rintro H' m_ hH hm_ hu_ _ rfl _ rfl; exact dn <| s_k (m_ 6) rfl (Qj co144 (vs := [v0_a, v1_b]) rfl (Qz.calls k hy6 ((h0_a.mono hH).src) ((h1_b.mono hH).src))) rfl (by rintro v_ H_ _ ⟨rfl, e_, h_⟩; exact ⟨rfl, e_, h_⟩)), (by rintro H' m_ hH hm_ hu_ _ rfl v9 (h10 : Ro kU32 H' v9 y5); exact dn <| s_k (m_ 7) rfl (Qj co115 (vs := (QW a v9)) rfl (XN.calls k hy12 h10)) rfl (by rintro v_ H_ _ ⟨rfl, e_, h_⟩; exact ⟨rfl, e_, h_⟩)), (by rintro H' m_ hH hm_ hu_ _ ⟨v15, rfl, h16⟩; exact dn <| s_d (m_ 8) rfl (QS rfl rfl) (by exact ⟨v15, rfl, h16⟩) rfl), (by rintro H' m_ hH hm_ hu_ _ ⟨v15, rfl, h16⟩; exact dn <| s_d (m_ 9) rfl (QS rfl rfl) (by exact rfl) rfl), trivial⟩ ?_
  intro H19 e20
  rintro _ _ rfl _ _ rfl _ _ rfl _ _ rfl _ _ rfl _ _ rfl v9 _ (h10 : Ro kU32 H19 v9 y5) _ _ ⟨v15, rfl, h16⟩ _ _ ⟨v17, rfl, h18⟩ _ _ rfl
  refine wS (Qd y11.1 v17) sz24 rfl rfl rfl rfl rfl (XF h18) .here u2 <| wA (errV 104 y11.2) rfl rfl <| Qc ?_
  obtain rfl := sj he
  refine Qn fn_127 rs_127 (.box (v := (Qd y11.1 v17)) rfl ty24 rfl rfl .here rfl (.tmp (v := errV 104 y11.2) rfl .nil)) <| ⟨⟨[_, _, _], rfl⟩, hle.trans e20, ⟨v17, rfl, h18⟩⟩
 ·
  refine QI rfl (Bool.eq_false_iff.2 c4) <| QF <| QX <| wR rfl <| w_d rfl (QM (o' := 1) Tryz.underlying24 rfl sz22 rfl rfl rfl) <| wL v0_a ty22 rfl rfl .h2 rfl rfl <| w_d rfl (QM (o' := 1) Tryz.underlying24 rfl sz22 rfl rfl rfl) <| wL v1_b ty22 rfl rfl .h1 rfl rfl <| bK he fun y21 hy22 he => w_d rfl (Xi (Qj co137 (vs := [v0_a, v1_b]) rfl (Xb.calls k hy22 h0_a.src h1_b.src))) <| w_d rfl (XO rfl rfl) ?_
  refine Qc ?_
  rcases its he with ⟨c25, he⟩ | ⟨c25, he⟩
  ·
   refine QB rfl (dt c25) <| QH rfl <| wL (Qd b v1_b) ty24 rfl rfl .h1 rfl rfl <| wL (Qd a v0_a) ty24 rfl rfl .h2 rfl rfl <| wS (Qd b v1_b) sz24 rfl rfl rfl rfl rfl (XF h1_b) .h2 u2 <| wS (Qd a v0_a) sz24 rfl rfl rfl rfl rfl (XF h0_a) .h1 u2 <| Qc <| w_sl 2 (pt b1) rfl <| w_sl 3 (pt b2) rfl <| w_sl 4 (pt b3) rfl <| w_sl 5 (errV 104 none) rfl <| Xl.j1_ok (k := k) hle he h1_b h0_a
  ·
   refine QI rfl (df c25) <| QF <| w_sl 2 (pt b1) rfl <| w_sl 3 (pt b2) rfl <| w_sl 4 (pt b3) rfl <| w_sl 5 (errV 104 none) rfl <| Xl.j1_ok (k := k) hle he h0_a h1_b
end Go.Proofs.YtkccpkccdbfomaaGreatDoor.GSS

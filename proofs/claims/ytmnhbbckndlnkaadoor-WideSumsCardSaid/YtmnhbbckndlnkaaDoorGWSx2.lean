/- A text of this session, written by a program (wip/k/gen.py): Go functions as Lean functions, and proofs that the code comes to them. -/
import Derived.Test.YtmnhbbckndlnkaaDoorGWSx1
namespace Go.Proofs.YtmnhbbckndlnkaaDoor.GWS
open Go Go.RowKit Go.Proofs.YtmnhbbckndlnkaaDoorK Go.Proofs.YtmnhbbckndlnkaaDoor
set_option linter.unusedVariables false
set_option linter.unusedSimpArgs false
/-! ### slices.Reverse[[]byte,byte] -/
noncomputable def slices_Reverse_byte_byte.C : Code := (Tryd.f77.body).getD .skip
def slices_Reverse_byte_byte.out (r : (List Int)) (H : Hp) (v : Value) : Prop := v = .tuple ⟨[]⟩
abbrev slices_Reverse_byte_byte.R (vr_ : Value) (H0 : Hp) (L : Items) (r : (List Int)) : Value → Hp → Items → Prop := fun v H' L' => (∃ p it', L' = p ++ it' :: L ∧ Sl (Kd.int .u8) H' 5 it' vr_ r) ∧ H0.le H' ∧ v = .tuple ⟨[]⟩
structure slices_Reverse_byte_byte.Hs where
 l0 : (List Int) → Int → Int → Option (List Int)
noncomputable def slices_Reverse_byte_byte.b0 (k : Nat) (h : slices_Reverse_byte_byte.Hs)  (s : List Int) (i : Int) (j_ : Int) : Option (List Int) := if i < j_ then (if (0 : Int) ≤ j_ ∧ j_ < (s.length : Int) then (if (0 : Int) ≤ i ∧ i < (s.length : Int) then (if (0 : Int) ≤ i ∧ i < (s.length : Int) then (if (0 : Int) ≤ j_ ∧ j_ < ((s.set (i : Int).toNat (rd s j_)).length : Int) then (h.l0 ((s.set (i : Int).toNat (rd s j_)).set (j_ : Int).toNat (rd s i)) (w64 (i + 1)) (w64 (j_ - 1))) else none) else none) else none) else none) else (some (s))
noncomputable def slices_Reverse_byte_byte.hs : Nat → slices_Reverse_byte_byte.Hs
 | 0 => ⟨fun _ _ _ => none⟩
 | k + 1 => ⟨fun x0 x1 x2 => slices_Reverse_byte_byte.b0 k (slices_Reverse_byte_byte.hs k) x0 x1 x2⟩
noncomputable def slices_Reverse_byte_byte.f (k : Nat) (s : List Int) : Option (List Int) := (fun h : slices_Reverse_byte_byte.Hs => h.l0 s 0 (w64 ((s.length : Int) - 1))) (slices_Reverse_byte_byte.hs k)
structure slices_Reverse_byte_byte.LE (h h' : slices_Reverse_byte_byte.Hs) : Prop where
 l0 : ∀ y0 y1 y2, LeO (h.l0 y0 y1 y2) (h'.l0 y0 y1 y2)
theorem slices_Reverse_byte_byte.b0_mono {k : Nat} {h h' : slices_Reverse_byte_byte.Hs} (hl : slices_Reverse_byte_byte.LE h h') : ∀ y0 y1 y2, LeO (slices_Reverse_byte_byte.b0 k h y0 y1 y2) (slices_Reverse_byte_byte.b0 (k + 1) h' y0 y1 y2) := fun _ _ _ => (LeO.ite (LeO.ite (LeO.ite (LeO.ite (LeO.ite (hl.l0 _ _ _) (LeO.refl _)) (LeO.refl _)) (LeO.refl _)) (LeO.refl _)) (LeO.refl _))
theorem slices_Reverse_byte_byte.hs_mono : ∀ k, slices_Reverse_byte_byte.LE (slices_Reverse_byte_byte.hs k) (slices_Reverse_byte_byte.hs (k + 1))
 | 0 => ⟨fun _ _ _ => LeO.none _⟩
 | k + 1 => ⟨slices_Reverse_byte_byte.b0_mono (k := k) (slices_Reverse_byte_byte.hs_mono k)⟩
theorem slices_Reverse_byte_byte.mono : ∀ k y0, LeO (slices_Reverse_byte_byte.f k y0) (slices_Reverse_byte_byte.f (k + 1) y0) := fun k _ => have hl := slices_Reverse_byte_byte.hs_mono k; by unfold slices_Reverse_byte_byte.f; exact (hl.l0 _ _ _)
noncomputable def slices_Reverse_byte_byte.Kl0 : List Item := .code (lopB (blkB (seqR slices_Reverse_byte_byte.C))) :: .inLoop (lopB (blkB (seqR slices_Reverse_byte_byte.C))) :: .inBlock 0 :: []
structure slices_Reverse_byte_byte.OK (h : slices_Reverse_byte_byte.Hs) : Prop where
 l0 : ∀ {H0 H : Hp} {L : Items} {r : (List Int)} {jk_ : Nat → Value} {s : List Int} {i : Int} {j_ : Int} {vr_ : Value} {i_s : Item'} (_ : H0.le H) (_he : h.l0 s i j_ = some r) (_h_s : Sl (Kd.int .u8) H 5 i_s vr_ s), Wp Tryd.prog 77 28 slices_Reverse_byte_byte.Kl0 (upd (upd (upd jk_ 0 (vr_)) 2 (.int .i64 i)) 3 (.int .i64 j_)) H (i_s :: L) (slices_Reverse_byte_byte.R vr_ H0 L r)
set_option maxRecDepth 100000 in
set_option maxHeartbeats 2000000 in
theorem slices_Reverse_byte_byte.b0_ok {k : Nat} {h : slices_Reverse_byte_byte.Hs} (hh : slices_Reverse_byte_byte.OK h) {H0 H : Hp} {L : Items} {r : (List Int)} {jk_ : Nat → Value} {s : List Int} {i : Int} {j_ : Int} {vr_ : Value} {i_s : Item'} (hle : H0.le H) (he : slices_Reverse_byte_byte.b0 k h s i j_ = some r) (h_s : Sl (Kd.int .u8) H 5 i_s vr_ s) : Wp Tryd.prog 77 28 slices_Reverse_byte_byte.Kl0 (upd (upd (upd jk_ 0 (vr_)) 2 (.int .i64 i)) 3 (.int .i64 j_)) H (i_s :: L) (slices_Reverse_byte_byte.R vr_ H0 L r) := by
 unfold slices_Reverse_byte_byte.b0 at he
 unfold slices_Reverse_byte_byte.Kl0
 refine w_seq ?_
 refine w_seq ?_
 refine w_region rfl ?_
 refine w_d rfl (d_move (v := .int .i64 i) rfl) ?_
 refine w_d rfl (d_move (v := .int .i64 j_) rfl) ?_
 refine w_d rfl (d_lss rfl rfl) ?_
 refine w_done ?_
 rcases its he with ⟨c1, he⟩ | ⟨c1, he⟩
 ·
  refine w_then rfl (decide_eq_true c1) ?_
  refine w_skip ?_
  refine w_seq ?_
  refine w_block ?_
  obtain ⟨c2, he⟩ := rq he
  obtain ⟨c3, he⟩ := rq he
  obtain ⟨c4, he⟩ := rq he
  refine w_drawn (p := 14) (tl := [14, 15]) [[], [], [], [], [], [], [(4, some 18), (5, some 19)], [(6, some 20)], [], [], [(8, some 22), (9, some 23)], [(10, some 24)], [(0, some 14), (1, some 15)], [(7, some 21), (12, some 26)]] [some 14, some 15, some 16, some 17, some 18, some 19, some 20, some 21, some 22, some 23, some 24, some 25, some 26, none] (fctF (.is (vr_) :: .is (.int .i64 i) :: .is (vr_) :: .is (.int .i64 j_) :: .is (vr_) :: .is (.int .i64 j_) :: .is (.pointer (some (pel vr_ j_ 1))) :: .is (.int .u8 (rd s j_)) :: .is (vr_) :: .is (.int .i64 i) :: .is (.pointer (some (pel vr_ i 1))) :: .is (.int .u8 (rd s i)) :: .is (.pointer (some (pel vr_ i 1))) :: .itm (fun H it_ => Sl (Kd.int .u8) H 5 it_ vr_ (s.set (i : Int).toNat (rd s j_))) (fun hle_ h_ => h_.mono hle_) :: [])) (fun m_ => m_ 13 :: L) (fun i_ => if i_ = 13 then i_s else none) mixed (by kernel_rfl) (by kernel_rfl) rfl (fct_mono (by kernel_rfl)) ⟨(by intro H' m_ hH hm_ hu_; refine depK_nil ?_; exact s_d (m_ 0) rfl (d_move (v := vr_) rfl) (by exact rfl) rfl), (by intro H' m_ hH hm_ hu_; refine depK_nil ?_; exact s_d (m_ 1) rfl (d_move (v := .int .i64 i) rfl) (by exact rfl) rfl), (by intro H' m_ hH hm_ hu_; refine depK_nil ?_; exact s_d (m_ 2) rfl (d_move (v := vr_) rfl) (by exact rfl) rfl), (by intro H' m_ hH hm_ hu_; refine depK_nil ?_; exact s_d (m_ 3) rfl (d_move (v := .int .i64 j_) rfl) (by exact rfl) rfl), (by intro H' m_ hH hm_ hu_; refine depK_nil ?_; exact s_d (m_ 4) rfl (d_move (v := vr_) rfl) (by exact rfl) rfl), (by intro H' m_ hH hm_ hu_; refine depK_nil ?_; exact s_d (m_ 5) rfl (d_move (v := .int .i64 j_) rfl) (by exact rfl) rfl), (by intro H' m_ hH hm_ hu_; rintro _ rfl _ rfl; refine depK_nil ?_; exact s_d (m_ 6) rfl (d_indexS (sz := 1) Tryd.underlying22 sz5 rfl (h_s.mono hH).shp rfl c2) (by exact rfl) rfl), (by intro H' m_ hH hm_ hu_; rintro _ rfl; refine depK_nil ?_; exact s_d (m_ 7) rfl (d_ldint ty5 rfl ((h_s.mono hH).src (has_eq (hu_ 13 (by kernel_rfl)))) c2) (by exact rfl) rfl), (by intro H' m_ hH hm_ hu_; refine depK_nil ?_; exact s_d (m_ 8) rfl (d_move (v := vr_) rfl) (by exact rfl) rfl), (by intro H' m_ hH hm_ hu_; refine depK_nil ?_; exact s_d (m_ 9) rfl (d_move (v := .int .i64 i) rfl) (by exact rfl) rfl), (by intro H' m_ hH hm_ hu_; rintro _ rfl _ rfl; refine depK_nil ?_; exact s_d (m_ 10) rfl (d_indexS (sz := 1) Tryd.underlying22 sz5 rfl (h_s.mono hH).shp rfl c3) (by exact rfl) rfl), (by intro H' m_ hH hm_ hu_; rintro _ rfl; refine depK_nil ?_; exact s_d (m_ 11) rfl (d_ldint ty5 rfl ((h_s.mono hH).src (has_eq (hu_ 13 (by kernel_rfl)))) c3) (by exact rfl) rfl), (by intro H' m_ hH hm_ hu_; rintro _ rfl _ rfl; refine depK_nil ?_; exact s_d (m_ 12) rfl (d_indexS (sz := 1) Tryd.underlying22 sz5 rfl (h_s.mono hH).shp rfl c4) (by exact rfl) rfl), (by intro H' m_ hH hm_ hu_; rintro _ rfl _ rfl; refine depK_nil ?_; exact s_stEl (i_s) hm_ rfl (o_storeEl (kd := (Kd.int .u8)) (v := .int .u8 (rd s j_)) sz5 rfl rfl rfl rfl (h_s.mono hH) c4 (fun _ => .here)) rfl (by exact fun _ h_ => ⟨rfl, h_⟩)), trivial⟩ ?_
  intro H7 e8
  rintro _ _ rfl _ _ rfl _ _ rfl _ _ rfl _ _ rfl _ _ rfl _ _ rfl _ _ rfl _ _ rfl _ _ rfl _ _ rfl _ _ rfl _ _ rfl _ i5 ⟨rfl, h6⟩
  refine w_it (L' := i5 :: L) rfl ?_
  obtain ⟨c9, he⟩ := rq he
  refine w_d rfl (d_indexS (sz := 1) Tryd.underlying22 sz5 rfl h6.shp rfl c9) ?_
  refine w_a0 rfl (o_storeEl (kd := (Kd.int .u8)) (v := .int .u8 (rd s i)) (F := fun z_ => z_ :: L) sz5 rfl rfl rfl rfl h6 c9 (fun _ => .here)) ?_
  rintro _ _ _ ⟨i10, rfl, rfl, rfl, h11⟩
  refine w_done ?_
  refine w_inBlock ?_
  refine w_region rfl ?_
  refine w_d rfl (d_move (v := .int .i64 i) rfl) ?_
  refine w_d rfl (d_add (c := w64 (i + 1)) rfl rfl rfl) ?_
  refine w_d rfl (d_move (v := .int .i64 j_) rfl) ?_
  refine w_d rfl (d_sub (c := w64 (j_ - 1)) rfl rfl rfl) ?_
  refine w_d rfl (d_assign (v := .int .i64 (w64 (i + 1))) rfl) ?_
  refine w_d rfl (d_assign (v := .int .i64 (w64 (j_ - 1))) rfl) ?_
  refine w_done ?_
  refine w_inLoop ?_
  refine w_sl 0 (vr_) rfl ?_
  refine w_sl 2 (.int .i64 (w64 (i + 1))) rfl ?_
  refine w_sl 3 (.int .i64 (w64 (j_ - 1))) rfl ?_
  exact hh.l0 (hle.trans e8) he h11
 ·
  refine w_else rfl (decide_eq_false c1) ?_
  refine w_exit rfl ?_
  obtain rfl := Option.some.inj he
  refine w_finish fn_77 rs_77 .nil ?_
  exact ⟨⟨[], _, rfl, h_s⟩, hle, rfl⟩
theorem slices_Reverse_byte_byte.ok : ∀ k, slices_Reverse_byte_byte.OK (slices_Reverse_byte_byte.hs k)
 | 0 => ⟨(by intros; exact nomatch (show none = some _ from by assumption))⟩
 | k + 1 => ⟨slices_Reverse_byte_byte.b0_ok (k := k) (slices_Reverse_byte_byte.ok k)⟩
set_option maxRecDepth 100000 in
set_option maxHeartbeats 2000000 in
theorem slices_Reverse_byte_byte.calls (k : Nat) {H : Hp} {L : Items} {s : List Int} {vr_ : Value} {it_ : Item'} {r : (List Int)} (he : slices_Reverse_byte_byte.f k s = some r) (hr_ : Sl (Kd.int .u8) H 5 it_ vr_ s) : Ct Tryd.prog 77 ⟨[vr_]⟩ H (it_ :: L) (fun v H' L' => ∃ it', L' = it' :: L ∧ H.le H' ∧ Sl (Kd.int .u8) H' 5 it' vr_ r ∧ v = .tuple ⟨[]⟩) := by
 refine ct_mut (Q := fun v => v = .tuple ⟨[]⟩) ?_
 have hle : H.le H := .refl _
 have hh := slices_Reverse_byte_byte.ok k
 unfold slices_Reverse_byte_byte.f at he
 refine ct_enter (args := [vr_]) fn_77 rfl nt_77 rfl ?_
 refine w_seq ?_
 refine w_region rfl ?_
 refine w_d rfl (d_move (v := vr_) rfl) ?_
 refine w_d rfl (d_lenS Tryd.underlying22 rfl hr_.shp) ?_
 refine w_d rfl (d_sub (c := w64 ((s.length : Int) - 1)) rfl rfl rfl) ?_
 refine w_d rfl (d_assign (v := .int .i64 0) rfl) ?_
 refine w_d rfl (d_assign (v := .int .i64 (w64 ((s.length : Int) - 1))) rfl) ?_
 refine w_done ?_
 refine w_block ?_
 refine w_loop ?_
 refine w_sl 0 (vr_) rfl ?_
 refine w_sl 2 (.int .i64 0) rfl ?_
 refine w_sl 3 (.int .i64 (w64 ((s.length : Int) - 1))) rfl ?_
 exact hh.l0 hle he hr_
/-! ### (radome/wide.Int).Text -/
noncomputable def wide_Int_Text.C : Code := (Tryd.f50.body).getD .skip
def wide_Int_Text.out (r : ByteArray) (H : Hp) (v : Value) : Prop := v = .string r
abbrev wide_Int_Text.R (H0 : Hp) (L : Items) (r : ByteArray) : Value → Hp → Items → Prop := fun v H' L' => (∃ p, L' = p ++ L) ∧ H0.le H' ∧ wide_Int_Text.out r H' v
structure wide_Int_Text.Hs where
 l0 : Bool → (List Int) → ByteArray → (List Int) → (List Int) → Option ByteArray
 l1 : Bool → (List Int) → ByteArray → (List Int) → (List Int) → Int → Int → Option ByteArray
noncomputable def wide_Int_Text.b0 (k : Nat) (h : wide_Int_Text.Hs)  (a_0 : Bool) (a_1 : List Int) (t2 : ByteArray) (out : List Int) (w : List Int) : Option ByteArray := if 0 < (w.length : Int) then ((wide_short.f k w 1000000000).bind fun y4 => h.l1 a_0 a_1 t2 out y4.1 y4.2 0) else (if a_0 = true then (if out.length + 1 ≤ 140737488355200 then ((slices_Reverse_byte_byte.f k (out ++ [45])).bind fun y18 => some (strOf y18)) else none) else ((slices_Reverse_byte_byte.f k out).bind fun y24 => some (strOf y24)))
noncomputable def wide_Int_Text.b1 (k : Nat) (h : wide_Int_Text.Hs)  (a_0 : Bool) (a_1 : List Int) (t2 : ByteArray) (out : List Int) (w : List Int) (r_ : Int) (k_ : Int) : Option ByteArray := if ((decide (k_ < 9)) && ((decide (0 < (w.length : Int))) || (decide (0 < r_)))) = true then (if out.length + 1 ≤ 140737488355200 then (h.l1 a_0 a_1 t2 (out ++ [(48 + ((Int.tmod r_ 10) % 256)) % 256]) w ((Int.tdiv r_ 10) % 4294967296) (w64 (k_ + 1))) else none) else (h.l0 a_0 a_1 t2 out w)
noncomputable def wide_Int_Text.hs : Nat → wide_Int_Text.Hs
 | 0 => ⟨fun _ _ _ _ _ => none, fun _ _ _ _ _ _ _ => none⟩
 | k + 1 => ⟨fun x0 x1 x2 x3 x4 => wide_Int_Text.b0 k (wide_Int_Text.hs k) x0 x1 x2 x3 x4, fun x0 x1 x2 x3 x4 x5 x6 => wide_Int_Text.b1 k (wide_Int_Text.hs k) x0 x1 x2 x3 x4 x5 x6⟩
noncomputable def wide_Int_Text.f (k : Nat) (a : wide_Int) : Option ByteArray := (fun h : wide_Int_Text.Hs => if (a.f_w.length : Int) = 0 then (some (str_2)) else (h.l0 a.f_neg a.f_w str_0 [] a.f_w)) (wide_Int_Text.hs k)
structure wide_Int_Text.LE (h h' : wide_Int_Text.Hs) : Prop where
 l0 : ∀ y0 y1 y2 y3 y4, LeO (h.l0 y0 y1 y2 y3 y4) (h'.l0 y0 y1 y2 y3 y4)
 l1 : ∀ y0 y1 y2 y3 y4 y5 y6, LeO (h.l1 y0 y1 y2 y3 y4 y5 y6) (h'.l1 y0 y1 y2 y3 y4 y5 y6)
theorem wide_Int_Text.b0_mono {k : Nat} {h h' : wide_Int_Text.Hs} (hl : wide_Int_Text.LE h h') : ∀ y0 y1 y2 y3 y4, LeO (wide_Int_Text.b0 k h y0 y1 y2 y3 y4) (wide_Int_Text.b0 (k + 1) h' y0 y1 y2 y3 y4) := fun _ _ _ _ _ => (LeO.ite (LeO.bind (wide_short.mono k _ _) fun _ => hl.l1 _ _ _ _ _ _ _) (LeO.ite (LeO.ite (LeO.bind (slices_Reverse_byte_byte.mono k _) fun _ => LeO.refl _) (LeO.refl _)) (LeO.bind (slices_Reverse_byte_byte.mono k _) fun _ => LeO.refl _)))
theorem wide_Int_Text.b1_mono {k : Nat} {h h' : wide_Int_Text.Hs} (hl : wide_Int_Text.LE h h') : ∀ y0 y1 y2 y3 y4 y5 y6, LeO (wide_Int_Text.b1 k h y0 y1 y2 y3 y4 y5 y6) (wide_Int_Text.b1 (k + 1) h' y0 y1 y2 y3 y4 y5 y6) := fun _ _ _ _ _ _ _ => (LeO.ite (LeO.ite (hl.l1 _ _ _ _ _ _ _) (LeO.refl _)) (hl.l0 _ _ _ _ _))
theorem wide_Int_Text.hs_mono : ∀ k, wide_Int_Text.LE (wide_Int_Text.hs k) (wide_Int_Text.hs (k + 1))
 | 0 => ⟨fun _ _ _ _ _ => LeO.none _, fun _ _ _ _ _ _ _ => LeO.none _⟩
 | k + 1 => ⟨wide_Int_Text.b0_mono (k := k) (wide_Int_Text.hs_mono k), wide_Int_Text.b1_mono (k := k) (wide_Int_Text.hs_mono k)⟩
theorem wide_Int_Text.mono : ∀ k y0, LeO (wide_Int_Text.f k y0) (wide_Int_Text.f (k + 1) y0) := fun k _ => have hl := wide_Int_Text.hs_mono k; by unfold wide_Int_Text.f; exact (LeO.ite (LeO.refl _) (hl.l0 _ _ _ _ _))
noncomputable def wide_Int_Text.Kl0 : List Item := .code (lopB (blkB (seqR (seqL (seqR (seqR (seqR wide_Int_Text.C))))))) :: .inLoop (lopB (blkB (seqR (seqL (seqR (seqR (seqR wide_Int_Text.C))))))) :: .inBlock 0 :: .code (seqR (seqR (seqR (seqR wide_Int_Text.C)))) :: []
noncomputable def wide_Int_Text.Kl1 : List Item := .code (lopB (blkB (seqR (seqR (seqR (blkB (seqR (lopB (blkB (seqR (seqL (seqR (seqR (seqR wide_Int_Text.C)))))))))))))) :: .inLoop (lopB (blkB (seqR (seqR (seqR (blkB (seqR (lopB (blkB (seqR (seqL (seqR (seqR (seqR wide_Int_Text.C)))))))))))))) :: .inBlock 2 :: .inBlock 1 :: .inLoop (lopB (blkB (seqR (seqL (seqR (seqR (seqR wide_Int_Text.C))))))) :: .inBlock 0 :: .code (seqR (seqR (seqR (seqR wide_Int_Text.C)))) :: []
structure wide_Int_Text.OK (h : wide_Int_Text.Hs) : Prop where
 l0 : ∀ {H0 H : Hp} {L : Items} {r : ByteArray} {jk_ : Nat → Value} {a_0 : Bool} {a_1 : List Int} {t2 : ByteArray} {out : List Int} {w : List Int} {v_a_1 : Value} {v_out : Value} {v_w : Value} {i_out : Item'} {b_a : Nat} (_ : H0.le H) (_he : h.l0 a_0 a_1 t2 out w = some r) (_h_a_1 : Ro (Kd.int .u32) H v_a_1 a_1) (_h_out : Sl (Kd.int .u8) H 5 i_out v_out out) (_h_w : Ro (Kd.int .u32) H v_w w), Wp Tryd.prog 50 52 wide_Int_Text.Kl0 (upd (upd (upd (upd jk_ 1 (.pointer (some ⟨b_a, 0, none⟩))) 2 (.string t2)) 3 (v_out)) 4 (v_w)) H (i_out :: some (b_a, .cells ⟨[.bool a_0, v_a_1]⟩ 30 (0, 0)) :: L) (wide_Int_Text.R H0 L r)
 l1 : ∀ {H0 H : Hp} {L : Items} {r : ByteArray} {jk_ : Nat → Value} {a_0 : Bool} {a_1 : List Int} {t2 : ByteArray} {out : List Int} {w : List Int} {r_ : Int} {k_ : Int} {v_a_1 : Value} {v_out : Value} {v_w : Value} {i_out : Item'} {b_a : Nat} (_ : H0.le H) (_he : h.l1 a_0 a_1 t2 out w r_ k_ = some r) (_h_a_1 : Ro (Kd.int .u32) H v_a_1 a_1) (_h_out : Sl (Kd.int .u8) H 5 i_out v_out out) (_h_w : Ro (Kd.int .u32) H v_w w), Wp Tryd.prog 50 52 wide_Int_Text.Kl1 (upd (upd (upd (upd (upd (upd jk_ 1 (.pointer (some ⟨b_a, 0, none⟩))) 2 (.string t2)) 3 (v_out)) 4 (v_w)) 5 (.int .u32 r_)) 6 (.int .i64 k_)) H (i_out :: some (b_a, .cells ⟨[.bool a_0, v_a_1]⟩ 30 (0, 0)) :: L) (wide_Int_Text.R H0 L r)
set_option maxRecDepth 100000 in
set_option maxHeartbeats 2000000 in
theorem wide_Int_Text.b0_ok {k : Nat} {h : wide_Int_Text.Hs} (hh : wide_Int_Text.OK h) {H0 H : Hp} {L : Items} {r : ByteArray} {jk_ : Nat → Value} {a_0 : Bool} {a_1 : List Int} {t2 : ByteArray} {out : List Int} {w : List Int} {v_a_1 : Value} {v_out : Value} {v_w : Value} {i_out : Item'} {b_a : Nat} (hle : H0.le H) (he : wide_Int_Text.b0 k h a_0 a_1 t2 out w = some r) (h_a_1 : Ro (Kd.int .u32) H v_a_1 a_1) (h_out : Sl (Kd.int .u8) H 5 i_out v_out out) (h_w : Ro (Kd.int .u32) H v_w w) : Wp Tryd.prog 50 52 wide_Int_Text.Kl0 (upd (upd (upd (upd jk_ 1 (.pointer (some ⟨b_a, 0, none⟩))) 2 (.string t2)) 3 (v_out)) 4 (v_w)) H (i_out :: some (b_a, .cells ⟨[.bool a_0, v_a_1]⟩ 30 (0, 0)) :: L) (wide_Int_Text.R H0 L r) := by
 unfold wide_Int_Text.b0 at he
 unfold wide_Int_Text.Kl0
 refine w_seq ?_
 refine w_seq ?_
 refine w_region rfl ?_
 refine w_d rfl (d_move (v := v_w) rfl) ?_
 refine w_d rfl (d_len Tryd.underlying28 rfl h_w.src) ?_
 refine w_d rfl (d_gtr rfl rfl) ?_
 refine w_done ?_
 rcases its he with ⟨c3, he⟩ | ⟨c3, he⟩
 ·
  refine w_then rfl (decide_eq_true c3) ?_
  refine w_skip ?_
  refine w_block ?_
  refine w_seq ?_
  refine w_region rfl ?_
  refine w_d rfl (d_assign (v := .int .u32 0) rfl) ?_
  refine w_done ?_
  refine w_seq ?_
  refine w_region rfl ?_
  refine w_d rfl (d_move (v := v_w) rfl) ?_
  obtain ⟨y4, hy5, he⟩ := Option.bind_eq_some_iff.1 he
  refine w_a rfl (o_call co76 (vs := [v_w, .int .u32 1000000000]) rfl (wide_short.calls k hy5 h_w.src)) ?_
  rintro _ H6 _ ⟨rfl, e7, ⟨v8, rfl, h9⟩⟩
  refine w_d rfl (d_move (v := .tuple ⟨[v8, .int .u32 y4.2]⟩) rfl) ?_
  refine w_d rfl (d_ext (vs := [v8, .int .u32 y4.2]) rfl rfl) ?_
  refine w_d rfl (d_ext (vs := [v8, .int .u32 y4.2]) rfl rfl) ?_
  refine w_d rfl (d_assign (v := v8) rfl) ?_
  refine w_d rfl (d_assign (v := .int .u32 y4.2) rfl) ?_
  refine w_done ?_
  refine w_seq ?_
  refine w_region rfl ?_
  refine w_d rfl (d_assign (v := .int .i64 0) rfl) ?_
  refine w_done ?_
  refine w_block ?_
  refine w_loop ?_
  refine w_sl 1 (.pointer (some ⟨b_a, 0, none⟩)) rfl ?_
  refine w_sl 2 (.string t2) rfl ?_
  refine w_sl 3 (v_out) rfl ?_
  refine w_sl 4 (v8) rfl ?_
  refine w_sl 5 (.int .u32 y4.2) rfl ?_
  refine w_sl 6 (.int .i64 0) rfl ?_
  exact hh.l1 (hle.trans e7) he (h_a_1.mono e7) (h_out.mono e7) h9
 ·
  refine w_else rfl (decide_eq_false c3) ?_
  refine w_exit rfl ?_
  refine w_seq ?_
  refine w_seq ?_
  refine w_region rfl ?_
  refine w_d rfl (d_fld (o' := 0) Tryd.underlying30 rfl sz4 rfl rfl rfl) ?_
  refine w_d rfl (d_loado (v := .bool a_0) ty4 rfl (.there .here) rfl rfl rfl rfl) ?_
  refine w_done ?_
  rcases its he with ⟨c10, he⟩ | ⟨c10, he⟩
  ·
   refine w_then rfl c10 ?_
   refine w_region rfl ?_
   refine w_d rfl (d_move (v := v_out) rfl) ?_
   refine w_a rfl (o_buildSlice' (kd := (Kd.int .u8)) (css := [[.int .u8 45]]) (xs := [45]) (parts := [(0, .int .u8 45)]) Tryd.underlying22 ti5 rfl ⟨_, _, rfl, rfl, rfl⟩ ⟨rfl, trivial⟩ rfl (by decide)) ?_
   rintro v11 _ _ ⟨i12, rfl, rfl, h13⟩
   obtain ⟨c14, he⟩ := rq he
   refine w_a rfl (o_append' (kd := (Kd.int .u8)) (F := fun z_ => i12 :: z_ :: some (b_a, .cells ⟨[.bool a_0, v_a_1]⟩ 30 (0, 0)) :: L) Tryd.underlying22 Tryd.underlying22 ti5 rfl (by first | omega | (simp only [List.nil_append, List.length_cons, List.length_nil]; omega)) rfl rfl h_out (h13.src .here) (fun _ => (.there .here))) ?_
   rintro v15 _ _ ⟨i16, rfl, rfl, h17⟩
   refine w_d rfl (d_assign (v := v15) rfl) ?_
   refine w_done ?_
   refine w_seq ?_
   refine w_region rfl ?_
   refine w_d rfl (d_move (v := v15) rfl) ?_
   obtain ⟨y18, hy19, he⟩ := Option.bind_eq_some_iff.1 he
   refine w_a rfl (o_call co77 (vs := [v15]) rfl (ct_at (F := fun z_ => i12 :: z_ :: some (b_a, .cells ⟨[.bool a_0, v_a_1]⟩ 30 (0, 0)) :: L) (slices_Reverse_byte_byte.calls k hy19 h17) (.there .here) (fun _ => (.there .here)))) ?_
   rintro _ H20 _ ⟨i22, rfl, e21, h23, rfl⟩
   refine w_done ?_
   refine w_seq ?_
   refine w_region rfl ?_
   refine w_d rfl (d_move (v := v15) rfl) ?_
   refine w_d rfl (d_strof Tryd.underlying22 Tryd.underlying5 Tryd.underlying9 rfl (h23.src (.there .here))) ?_
   refine w_d rfl (d_assign (v := .string (strOf y18)) rfl) ?_
   refine w_done ?_
   obtain rfl := Option.some.inj he
   refine w_return fn_50 rs_50 (.tmp (v := .string (strOf y18)) rfl .nil) ?_
   exact ⟨⟨[_, _, _], rfl⟩, hle.trans e21, rfl⟩
  ·
   refine w_else rfl (Bool.eq_false_iff.2 c10) ?_
   refine w_skip ?_
   refine w_seq ?_
   refine w_region rfl ?_
   refine w_d rfl (d_move (v := v_out) rfl) ?_
   obtain ⟨y24, hy25, he⟩ := Option.bind_eq_some_iff.1 he
   refine w_a rfl (o_call co77 (vs := [v_out]) rfl (ct_at (F := fun z_ => z_ :: some (b_a, .cells ⟨[.bool a_0, v_a_1]⟩ 30 (0, 0)) :: L) (slices_Reverse_byte_byte.calls k hy25 h_out) .here (fun _ => .here))) ?_
   rintro _ H26 _ ⟨i28, rfl, e27, h29, rfl⟩
   refine w_done ?_
   refine w_seq ?_
   refine w_region rfl ?_
   refine w_d rfl (d_move (v := v_out) rfl) ?_
   refine w_d rfl (d_strof Tryd.underlying22 Tryd.underlying5 Tryd.underlying9 rfl (h29.src .here)) ?_
   refine w_d rfl (d_assign (v := .string (strOf y24)) rfl) ?_
   refine w_done ?_
   obtain rfl := Option.some.inj he
   refine w_return fn_50 rs_50 (.tmp (v := .string (strOf y24)) rfl .nil) ?_
   exact ⟨⟨[_, _], rfl⟩, hle.trans e27, rfl⟩
set_option maxRecDepth 100000 in
set_option maxHeartbeats 2000000 in
theorem wide_Int_Text.b1_ok {k : Nat} {h : wide_Int_Text.Hs} (hh : wide_Int_Text.OK h) {H0 H : Hp} {L : Items} {r : ByteArray} {jk_ : Nat → Value} {a_0 : Bool} {a_1 : List Int} {t2 : ByteArray} {out : List Int} {w : List Int} {r_ : Int} {k_ : Int} {v_a_1 : Value} {v_out : Value} {v_w : Value} {i_out : Item'} {b_a : Nat} (hle : H0.le H) (he : wide_Int_Text.b1 k h a_0 a_1 t2 out w r_ k_ = some r) (h_a_1 : Ro (Kd.int .u32) H v_a_1 a_1) (h_out : Sl (Kd.int .u8) H 5 i_out v_out out) (h_w : Ro (Kd.int .u32) H v_w w) : Wp Tryd.prog 50 52 wide_Int_Text.Kl1 (upd (upd (upd (upd (upd (upd jk_ 1 (.pointer (some ⟨b_a, 0, none⟩))) 2 (.string t2)) 3 (v_out)) 4 (v_w)) 5 (.int .u32 r_)) 6 (.int .i64 k_)) H (i_out :: some (b_a, .cells ⟨[.bool a_0, v_a_1]⟩ 30 (0, 0)) :: L) (wide_Int_Text.R H0 L r) := by
 unfold wide_Int_Text.b1 at he
 unfold wide_Int_Text.Kl1
 refine w_seq ?_
 refine w_seq ?_
 refine w_region rfl ?_
 refine w_d rfl (d_move (v := .int .i64 k_) rfl) ?_
 refine w_d rfl (d_lss rfl rfl) ?_
 refine w_d rfl (d_move (v := .bool (decide (k_ < 9))) rfl) ?_
 refine w_g (g := decide (k_ < 9)) rfl rfl rfl wn_t (fun g30 => d_move (v := v_w) rfl) ?_
 refine w_g (g := decide (k_ < 9)) rfl rfl rfl wn_t (fun g31 => d_len Tryd.underlying28 (cvt g31) h_w.src) ?_
 refine w_g (g := decide (k_ < 9)) rfl rfl rfl wn_t (fun g32 => d_gtr (cvt g32) rfl) ?_
 refine w_g (g := decide (k_ < 9)) rfl rfl rfl wn_t (fun g33 => d_move (v := .bool (decide (0 < (w.length : Int)))) (cvt g33)) ?_
 refine w_g (g := (decide (k_ < 9)) && (!(decide (0 < (w.length : Int))))) rfl rfl rfl wn_gf (fun g34 => d_move (v := .int .u32 r_) rfl) ?_
 refine w_g (g := (decide (k_ < 9)) && (!(decide (0 < (w.length : Int))))) rfl rfl rfl wn_gf (fun g35 => d_gtr (cvt g35) rfl) ?_
 refine w_g (g := decide (k_ < 9)) rfl rfl rfl wn_t (fun g36 => d_or' (b := (decide (0 < (w.length : Int)))) (p := (decide (0 < r_))) (cvt g36) rfl (cva g36)) ?_
 refine w_d rfl (d_and' (b := (decide (k_ < 9))) (p := ((decide (0 < (w.length : Int))) || (decide (0 < r_)))) rfl rfl rfl) ?_
 refine w_done ?_
 rcases its he with ⟨c37, he⟩ | ⟨c37, he⟩
 ·
  refine w_then rfl c37 ?_
  refine w_skip ?_
  refine w_seq ?_
  refine w_block ?_
  refine w_seq ?_
  refine w_region rfl ?_
  refine w_d rfl (d_move (v := v_out) rfl) ?_
  refine w_d rfl (d_move (v := .int .u32 r_) rfl) ?_
  refine w_d rfl (d_rem rfl rfl (by decide)) ?_
  refine w_d rfl (d_conv (c := (Int.tmod r_ 10) % 256) Tryd.underlying93 Tryd.underlying5 rfl rfl) ?_
  refine w_d rfl (d_add (c := (48 + ((Int.tmod r_ 10) % 256)) % 256) rfl rfl rfl) ?_
  refine w_a rfl (o_buildSlice' (kd := (Kd.int .u8)) (css := [[.int .u8 ((48 + ((Int.tmod r_ 10) % 256)) % 256)]]) (xs := [(48 + ((Int.tmod r_ 10) % 256)) % 256]) (parts := [(0, .int .u8 ((48 + ((Int.tmod r_ 10) % 256)) % 256))]) Tryd.underlying22 ti5 rfl ⟨_, _, rfl, rfl, rfl⟩ ⟨rfl, trivial⟩ rfl (by decide)) ?_
  rintro v38 _ _ ⟨i39, rfl, rfl, h40⟩
  obtain ⟨c41, he⟩ := rq he
  refine w_a rfl (o_append' (kd := (Kd.int .u8)) (F := fun z_ => i39 :: z_ :: some (b_a, .cells ⟨[.bool a_0, v_a_1]⟩ 30 (0, 0)) :: L) Tryd.underlying22 Tryd.underlying22 ti5 rfl (by first | omega | (simp only [List.nil_append, List.length_cons, List.length_nil]; omega)) rfl rfl h_out (h40.src .here) (fun _ => (.there .here))) ?_
  rintro v42 _ _ ⟨i43, rfl, rfl, h44⟩
  refine w_d rfl (d_assign (v := v42) rfl) ?_
  refine w_done ?_
  refine w_region rfl ?_
  refine w_d rfl (d_move (v := .int .u32 r_) rfl) ?_
  refine w_d rfl (d_quo (c := (Int.tdiv r_ 10) % 4294967296) rfl rfl (by decide) rfl) ?_
  refine w_d rfl (d_assign (v := .int .u32 ((Int.tdiv r_ 10) % 4294967296)) rfl) ?_
  refine w_done ?_
  refine w_inBlock ?_
  refine w_region rfl ?_
  refine w_d rfl (d_move (v := .int .i64 k_) rfl) ?_
  refine w_d rfl (d_add (c := w64 (k_ + 1)) rfl rfl rfl) ?_
  refine w_d rfl (d_assign (v := .int .i64 (w64 (k_ + 1))) rfl) ?_
  refine w_done ?_
  refine w_inLoop ?_
  refine w_del .here ?_
  refine w_sl 1 (.pointer (some ⟨b_a, 0, none⟩)) rfl ?_
  refine w_sl 2 (.string t2) rfl ?_
  refine w_sl 3 (v42) rfl ?_
  refine w_sl 4 (v_w) rfl ?_
  refine w_sl 5 (.int .u32 ((Int.tdiv r_ 10) % 4294967296)) rfl ?_
  refine w_sl 6 (.int .i64 (w64 (k_ + 1))) rfl ?_
  exact hh.l1 hle he h_a_1 h44 h_w
 ·
  refine w_else rfl (Bool.eq_false_iff.2 c37) ?_
  refine w_exit rfl ?_
  refine w_inBlock ?_
  refine w_inLoop ?_
  refine w_sl 1 (.pointer (some ⟨b_a, 0, none⟩)) rfl ?_
  refine w_sl 2 (.string t2) rfl ?_
  refine w_sl 3 (v_out) rfl ?_
  refine w_sl 4 (v_w) rfl ?_
  exact hh.l0 hle he h_a_1 h_out h_w
theorem wide_Int_Text.ok : ∀ k, wide_Int_Text.OK (wide_Int_Text.hs k)
 | 0 => ⟨(by intros; exact nomatch (show none = some _ from by assumption)), (by intros; exact nomatch (show none = some _ from by assumption))⟩
 | k + 1 => ⟨wide_Int_Text.b0_ok (k := k) (wide_Int_Text.ok k), wide_Int_Text.b1_ok (k := k) (wide_Int_Text.ok k)⟩
set_option maxRecDepth 100000 in
set_option maxHeartbeats 2000000 in
theorem wide_Int_Text.calls (k : Nat) {H : Hp} {L : Items} {a : wide_Int} {v0_a : Value} {r : ByteArray} (he : wide_Int_Text.f k a = some r) (h0_a : Ro (Kd.int .u32) H v0_a a.f_w) : Ct Tryd.prog 50 ⟨[.agg ⟨[.bool a.f_neg, v0_a]⟩]⟩ H L (fun v H' L' => L = L' ∧ H = H' ∧ v = .string r) := by
 refine ct_outs (O := wide_Int_Text.out r) (fun _ _ h => h) ?_
 have hle : H.le H := .refl _
 have hh := wide_Int_Text.ok k
 unfold wide_Int_Text.f at he
 refine ct_enter (args := [.agg ⟨[.bool a.f_neg, v0_a]⟩]) fn_50 rfl nt_50 rfl ?_
 refine w_seq ?_
 refine w_region rfl ?_
 refine w_a rfl (o_box (v := .agg ⟨[.bool a.f_neg, v0_a]⟩) rfl rfl) ?_
 rintro _ _ _ ⟨b1, rfl, rfl, rfl⟩
 refine w_d rfl (d_assign (v := .string str_0) rfl) ?_
 refine w_done ?_
 refine w_seq ?_
 refine w_seq ?_
 refine w_region rfl ?_
 refine w_d rfl (d_fld (o' := 1) Tryd.underlying30 rfl sz28 rfl rfl rfl) ?_
 refine w_d rfl (d_loado (v := v0_a) ty28 rfl .here rfl rfl rfl rfl) ?_
 refine w_d rfl (d_len Tryd.underlying28 rfl h0_a.src) ?_
 refine w_d rfl (d_eql rfl rfl) ?_
 refine w_done ?_
 rcases its he with ⟨c2, he⟩ | ⟨c2, he⟩
 ·
  refine w_then rfl (decide_eq_true c2) ?_
  refine w_seq ?_
  refine w_region rfl ?_
  refine w_d rfl (d_assign (v := .string str_2) rfl) ?_
  refine w_done ?_
  obtain rfl := Option.some.inj he
  refine w_return fn_50 rs_50 (.tmp (v := .string str_2) rfl .nil) ?_
  exact ⟨⟨[_], rfl⟩, hle, rfl⟩
 ·
  refine w_else rfl (decide_eq_false c2) ?_
  refine w_skip ?_
  refine w_seq ?_
  refine w_region rfl ?_
  refine w_d rfl (d_assign (v := .slice none 0 0) rfl) ?_
  refine w_done ?_
  refine w_seq ?_
  refine w_seq ?_
  refine w_region rfl ?_
  refine w_d rfl (d_fld (o' := 1) Tryd.underlying30 rfl sz28 rfl rfl rfl) ?_
  refine w_d rfl (d_loado (v := v0_a) ty28 rfl .here rfl rfl rfl rfl) ?_
  refine w_d rfl (d_assign (v := v0_a) rfl) ?_
  refine w_done ?_
  refine w_block ?_
  refine w_loop ?_
  refine w_none ?_
  refine w_sl 1 (.pointer (some ⟨b1, 0, none⟩)) rfl ?_
  refine w_sl 2 (.string str_0) rfl ?_
  refine w_sl 3 (.slice none 0 0) rfl ?_
  refine w_sl 4 (v0_a) rfl ?_
  exact hh.l0 hle he h0_a (sl_nil _ _ _) h0_a
/-! ### radome/radomelaw01.is -/
noncomputable def radomelaw01_is.C : Code := (Tryd.f12.body).getD .skip
def radomelaw01_is.out (r : Bool) (H : Hp) (v : Value) : Prop := v = .bool r
abbrev radomelaw01_is.R (H0 : Hp) (L : Items) (r : Bool) : Value → Hp → Items → Prop := fun v H' L' => (∃ p, L' = p ++ L) ∧ H0.le H' ∧ radomelaw01_is.out r H' v
noncomputable def radomelaw01_is.f (k : Nat) (a : wide_Int) (b : radomeref01_Num) : Option Bool := (wide_Int_Text.f k (⟨a.f_neg, a.f_w⟩ : wide_Int)).bind fun y3 => (radomeref01_Text.f k (⟨b.f_Neg, b.f_D⟩ : radomeref01_Num)).bind fun y9 => some (decide (y3 = y9))
theorem radomelaw01_is.mono : ∀ k y0 y1, LeO (radomelaw01_is.f k y0 y1) (radomelaw01_is.f (k + 1) y0 y1) := fun k _ _ => by unfold radomelaw01_is.f; exact (LeO.bind (wide_Int_Text.mono k _) fun _ => LeO.bind (radomeref01_Text.mono k _) fun _ => LeO.refl _)
set_option maxRecDepth 100000 in
set_option maxHeartbeats 2000000 in
theorem radomelaw01_is.calls (k : Nat) {H : Hp} {L : Items} {a : wide_Int} {b : radomeref01_Num} {v0_a : Value} {v1_b : Value} {r : Bool} (he : radomelaw01_is.f k a b = some r) (h0_a : Ro (Kd.int .u32) H v0_a a.f_w) (h1_b : Ro (Kd.int .i64) H v1_b b.f_D) : Ct Tryd.prog 12 ⟨[.agg ⟨[.bool a.f_neg, v0_a]⟩, .agg ⟨[.bool b.f_Neg, v1_b]⟩]⟩ H L (fun v H' L' => L = L' ∧ H = H' ∧ v = .bool r) := by
 refine ct_outs (O := radomelaw01_is.out r) (fun _ _ h => h) ?_
 have hle : H.le H := .refl _
 unfold radomelaw01_is.f at he
 refine ct_enter (args := [.agg ⟨[.bool a.f_neg, v0_a]⟩, .agg ⟨[.bool b.f_Neg, v1_b]⟩]) fn_12 rfl nt_12 rfl ?_
 refine w_seq ?_
 refine w_region rfl ?_
 refine w_a rfl (o_box (v := .agg ⟨[.bool a.f_neg, v0_a]⟩) rfl rfl) ?_
 rintro _ _ _ ⟨b1, rfl, rfl, rfl⟩
 refine w_a rfl (o_box (v := .agg ⟨[.bool b.f_Neg, v1_b]⟩) rfl rfl) ?_
 rintro _ _ _ ⟨b2, rfl, rfl, rfl⟩
 refine w_d rfl (d_assign (v := .bool false) rfl) ?_
 refine w_done ?_
 refine w_seq ?_
 obtain ⟨y3, hy4, he⟩ := Option.bind_eq_some_iff.1 he
 refine w_drawn (p := 3) (tl := [3, 4, 5]) [[], [(0, some 5)], []] [some 5, some 6, some 7] (fctF (.is (.agg ⟨[.bool a.f_neg, v0_a]⟩) :: .is (.string y3) :: .is (.agg ⟨[.bool b.f_Neg, v1_b]⟩) :: [])) (fun m_ => some (b2, .cells ⟨[.bool b.f_Neg, v1_b]⟩ 26 (0, 0)) :: some (b1, .cells ⟨[.bool a.f_neg, v0_a]⟩ 30 (0, 0)) :: L) (fun _ => none) mixed (by kernel_rfl) (by kernel_rfl) rfl (fct_mono (by kernel_rfl)) ⟨(by intro H' m_ hH hm_ hu_; refine depK_nil ?_; exact s_d (m_ 0) rfl (d_loado (v := .agg ⟨[.bool a.f_neg, v0_a]⟩) ty30 rfl (.there .here) rfl rfl rfl rfl) (by exact rfl) rfl), (by intro H' m_ hH hm_ hu_; rintro _ rfl; refine depK_nil ?_; exact s_d (m_ 1) rfl (call_d (o_call co50 (vs := [.agg ⟨[.bool a.f_neg, v0_a]⟩]) rfl (wide_Int_Text.calls k (a := (⟨a.f_neg, a.f_w⟩ : wide_Int)) hy4 (h0_a.mono hH)))) (by exact rfl) rfl), (by intro H' m_ hH hm_ hu_; refine depK_nil ?_; exact s_d (m_ 2) rfl (d_loado (v := .agg ⟨[.bool b.f_Neg, v1_b]⟩) ty26 rfl .here rfl rfl rfl rfl) (by exact rfl) rfl), trivial⟩ ?_
 intro H7 e8
 rintro _ _ rfl _ _ rfl _ _ rfl
 obtain ⟨y9, hy10, he⟩ := Option.bind_eq_some_iff.1 he
 refine w_d rfl (call_d (o_call co44 (vs := [.agg ⟨[.bool b.f_Neg, v1_b]⟩]) rfl (radomeref01_Text.calls k (a := (⟨b.f_Neg, b.f_D⟩ : radomeref01_Num)) hy10 (h1_b.mono e8)))) ?_
 refine w_d rfl (d_eqs rfl rfl) ?_
 refine w_d rfl (d_assign (v := .bool (decide (y3 = y9))) rfl) ?_
 refine w_done ?_
 obtain rfl := Option.some.inj he
 refine w_return fn_12 rs_12 (.tmp (v := .bool (decide (y3 = y9))) rfl .nil) ?_
 exact ⟨⟨[_, _], rfl⟩, hle.trans e8, rfl⟩
/-! ### radome/radomeref01.Sub -/
noncomputable def radomeref01_Sub.C : Code := (Tryd.f14.body).getD .skip
def radomeref01_Sub.out (r : radomeref01_Num) (H : Hp) (v : Value) : Prop := ∃ v0, v = .agg ⟨[.bool r.f_Neg, v0]⟩ ∧ Ro (Kd.int .i64) H v0 r.f_D
theorem radomeref01_Sub.out_mono (r : radomeref01_Num) {H H' : Hp} {v : Value} (hle : H.le H') (h : radomeref01_Sub.out r H v) : radomeref01_Sub.out r H' v := by
 obtain ⟨v0, rfl, h0⟩ := h; exact ⟨v0, rfl, h0.mono hle⟩
abbrev radomeref01_Sub.R (H0 : Hp) (L : Items) (r : radomeref01_Num) : Value → Hp → Items → Prop := fun v H' L' => (∃ p, L' = p ++ L) ∧ H0.le H' ∧ radomeref01_Sub.out r H' v
noncomputable def radomeref01_Sub.f (k : Nat) (a : radomeref01_Num) (b : radomeref01_Num) : Option radomeref01_Num := (radomeref01_Neg.f k (⟨b.f_Neg, b.f_D⟩ : radomeref01_Num)).bind fun y4 => (radomeref01_Add.f k (⟨a.f_Neg, a.f_D⟩ : radomeref01_Num) (⟨y4.f_Neg, y4.f_D⟩ : radomeref01_Num)).bind fun y12 => some ((⟨y12.f_Neg, y12.f_D⟩ : radomeref01_Num))
theorem radomeref01_Sub.mono : ∀ k y0 y1, LeO (radomeref01_Sub.f k y0 y1) (radomeref01_Sub.f (k + 1) y0 y1) := fun k _ _ => by unfold radomeref01_Sub.f; exact (LeO.bind (radomeref01_Neg.mono k _) fun _ => LeO.bind (radomeref01_Add.mono k _ _) fun _ => LeO.refl _)
set_option maxRecDepth 100000 in
set_option maxHeartbeats 2000000 in
theorem radomeref01_Sub.calls (k : Nat) {H : Hp} {L : Items} {a : radomeref01_Num} {b : radomeref01_Num} {v0_a : Value} {v1_b : Value} {r : radomeref01_Num} (he : radomeref01_Sub.f k a b = some r) (h0_a : Ro (Kd.int .i64) H v0_a a.f_D) (h1_b : Ro (Kd.int .i64) H v1_b b.f_D) : Ct Tryd.prog 14 ⟨[.agg ⟨[.bool a.f_Neg, v0_a]⟩, .agg ⟨[.bool b.f_Neg, v1_b]⟩]⟩ H L (fun v H' L' => L = L' ∧ H.le H' ∧ radomeref01_Sub.out r H' v) := by
 refine ct_out (O := radomeref01_Sub.out r) ?_
 have hle : H.le H := .refl _
 unfold radomeref01_Sub.f at he
 refine ct_enter (args := [.agg ⟨[.bool a.f_Neg, v0_a]⟩, .agg ⟨[.bool b.f_Neg, v1_b]⟩]) fn_14 rfl nt_14 rfl ?_
 refine w_seq ?_
 refine w_region rfl ?_
 refine w_a rfl (o_box (v := .agg ⟨[.bool a.f_Neg, v0_a]⟩) rfl rfl) ?_
 rintro _ _ _ ⟨b1, rfl, rfl, rfl⟩
 refine w_a rfl (o_box (v := .agg ⟨[.bool b.f_Neg, v1_b]⟩) rfl rfl) ?_
 rintro _ _ _ ⟨b2, rfl, rfl, rfl⟩
 refine w_a rfl (o_alloc zr26 rfl) ?_
 rintro _ _ _ ⟨b3, rfl, rfl, rfl⟩
 refine w_done ?_
 refine w_seq ?_
 obtain ⟨y4, hy5, he⟩ := Option.bind_eq_some_iff.1 he
 refine w_drawn (p := 3) (tl := [3, 4]) [[], [], [(1, some 6)]] [some 5, some 6, some 7] (fctF (.is (.agg ⟨[.bool a.f_Neg, v0_a]⟩) :: .is (.agg ⟨[.bool b.f_Neg, v1_b]⟩) :: .of (radomeref01_Neg.out y4) (radomeref01_Neg.out_mono _) :: [])) (fun m_ => some (b3, .cells ⟨[.bool false, .slice none 0 0]⟩ 26 (0, 0)) :: some (b2, .cells ⟨[.bool b.f_Neg, v1_b]⟩ 26 (0, 0)) :: some (b1, .cells ⟨[.bool a.f_Neg, v0_a]⟩ 26 (0, 0)) :: L) (fun _ => none) mixed (by kernel_rfl) (by kernel_rfl) rfl (fct_mono (by kernel_rfl)) ⟨(by intro H' m_ hH hm_ hu_; refine depK_nil ?_; exact s_d (m_ 0) rfl (d_loado (v := .agg ⟨[.bool a.f_Neg, v0_a]⟩) ty26 rfl (.there (.there .here)) rfl rfl rfl rfl) (by exact rfl) rfl), (by intro H' m_ hH hm_ hu_; refine depK_nil ?_; exact s_d (m_ 1) rfl (d_loado (v := .agg ⟨[.bool b.f_Neg, v1_b]⟩) ty26 rfl (.there .here) rfl rfl rfl rfl) (by exact rfl) rfl), (by intro H' m_ hH hm_ hu_; rintro _ rfl; refine depK_nil ?_; exact s_k (m_ 2) rfl (o_call co21 (vs := [.agg ⟨[.bool b.f_Neg, v1_b]⟩]) rfl (radomeref01_Neg.calls k (a := (⟨b.f_Neg, b.f_D⟩ : radomeref01_Num)) hy5 (h1_b.mono hH))) rfl (by rintro v_ H_ _ ⟨rfl, e_, h_⟩; exact ⟨rfl, e_, h_⟩)), trivial⟩ ?_
 intro H10 e11
 rintro _ _ rfl _ _ rfl _ _ ⟨v8, rfl, h9⟩
 obtain ⟨y12, hy13, he⟩ := Option.bind_eq_some_iff.1 he
 refine w_a rfl (o_call co13 (vs := [.agg ⟨[.bool a.f_Neg, v0_a]⟩, .agg ⟨[.bool y4.f_Neg, v8]⟩]) rfl (radomeref01_Add.calls k (a := (⟨a.f_Neg, a.f_D⟩ : radomeref01_Num)) (b := (⟨y4.f_Neg, y4.f_D⟩ : radomeref01_Num)) hy13 (h0_a.mono e11) h9)) ?_
 rintro _ H14 _ ⟨rfl, e15, ⟨v16, rfl, h17⟩⟩
 refine w_a0 rfl (o_store (v := .agg ⟨[.bool y12.f_Neg, v16]⟩) sz26 rfl rfl rfl rfl (one_cons rfl (one_cons (h17.one) one_nil)) .here (.here (.here .done))) ?_
 rintro _ _ _ ⟨rfl, rfl, rfl⟩
 refine w_done ?_
 obtain rfl := Option.some.inj he
 refine w_return fn_14 rs_14 (.box (v := .agg ⟨[.bool y12.f_Neg, v16]⟩) rfl ty26 rfl rfl .here rfl .nil) ?_
 exact ⟨⟨[_, _, _], rfl⟩, hle.trans (e11.trans e15), ⟨v16, rfl, h17⟩⟩
/-! ### (radome/wide.Int).Sign -/
noncomputable def wide_Int_Sign.C : Code := (Tryd.f18.body).getD .skip
def wide_Int_Sign.out (r : Int) (H : Hp) (v : Value) : Prop := v = .int .i64 r
abbrev wide_Int_Sign.R (H0 : Hp) (L : Items) (r : Int) : Value → Hp → Items → Prop := fun v H' L' => (∃ p, L' = p ++ L) ∧ H0.le H' ∧ wide_Int_Sign.out r H' v
noncomputable def wide_Int_Sign.f (k : Nat) (a : wide_Int) : Option Int := if (a.f_w.length : Int) = 0 then (some (0)) else (if a.f_neg = true then (some ((-1))) else (some (1)))
theorem wide_Int_Sign.mono : ∀ k y0, LeO (wide_Int_Sign.f k y0) (wide_Int_Sign.f (k + 1) y0) := fun k _ => by unfold wide_Int_Sign.f; exact (LeO.ite (LeO.refl _) (LeO.ite (LeO.refl _) (LeO.refl _)))
set_option maxRecDepth 100000 in
set_option maxHeartbeats 2000000 in
theorem wide_Int_Sign.calls (k : Nat) {H : Hp} {L : Items} {a : wide_Int} {v0_a : Value} {r : Int} (he : wide_Int_Sign.f k a = some r) (h0_a : Ro (Kd.int .u32) H v0_a a.f_w) : Ct Tryd.prog 18 ⟨[.agg ⟨[.bool a.f_neg, v0_a]⟩]⟩ H L (fun v H' L' => L = L' ∧ H = H' ∧ v = .int .i64 r) := by
 refine ct_outs (O := wide_Int_Sign.out r) (fun _ _ h => h) ?_
 have hle : H.le H := .refl _
 unfold wide_Int_Sign.f at he
 refine ct_enter (args := [.agg ⟨[.bool a.f_neg, v0_a]⟩]) fn_18 rfl nt_18 rfl ?_
 refine w_seq ?_
 refine w_region rfl ?_
 refine w_a rfl (o_box (v := .agg ⟨[.bool a.f_neg, v0_a]⟩) rfl rfl) ?_
 rintro _ _ _ ⟨b1, rfl, rfl, rfl⟩
 refine w_d rfl (d_assign (v := .int .i64 0) rfl) ?_
 refine w_done ?_
 refine w_seq ?_
 refine w_block ?_
 refine w_seq ?_
 refine w_region rfl ?_
 refine w_d rfl (d_fld (o' := 1) Tryd.underlying30 rfl sz28 rfl rfl rfl) ?_
 refine w_d rfl (d_loado (v := v0_a) ty28 rfl .here rfl rfl rfl rfl) ?_
 refine w_d rfl (d_len Tryd.underlying28 rfl h0_a.src) ?_
 refine w_d rfl (d_eql rfl rfl) ?_
 refine w_d rfl (d_assign (v := .bool (decide ((a.f_w.length : Int) = 0))) rfl) ?_
 refine w_done ?_
 rcases its he with ⟨c2, he⟩ | ⟨c2, he⟩
 ·
  refine w_then rfl (decide_eq_true c2) ?_
  refine w_seq ?_
  refine w_region rfl ?_
  refine w_d rfl (d_assign (v := .int .i64 0) rfl) ?_
  refine w_done ?_
  obtain rfl := Option.some.inj he
  refine w_return fn_18 rs_18 (.tmp (v := .int .i64 0) rfl .nil) ?_
  exact ⟨⟨[_], rfl⟩, hle, rfl⟩
 ·
  refine w_else rfl (decide_eq_false c2) ?_
  refine w_seq ?_
  refine w_region rfl ?_
  refine w_d rfl (d_fld (o' := 0) Tryd.underlying30 rfl sz4 rfl rfl rfl) ?_
  refine w_d rfl (d_loado (v := .bool a.f_neg) ty4 rfl .here rfl rfl rfl rfl) ?_
  refine w_d rfl (d_assign (v := .bool a.f_neg) rfl) ?_
  refine w_done ?_
  rcases its he with ⟨c3, he⟩ | ⟨c3, he⟩
  ·
   refine w_then rfl c3 ?_
   refine w_seq ?_
   refine w_region rfl ?_
   refine w_d rfl (d_assign (v := .int .i64 (-1)) rfl) ?_
   refine w_done ?_
   obtain rfl := Option.some.inj he
   refine w_return fn_18 rs_18 (.tmp (v := .int .i64 (-1)) rfl .nil) ?_
   exact ⟨⟨[_], rfl⟩, hle, rfl⟩
  ·
   refine w_else rfl (Bool.eq_false_iff.2 c3) ?_
   refine w_skip ?_
   refine w_inBlock ?_
   refine w_seq ?_
   refine w_region rfl ?_
   refine w_d rfl (d_assign (v := .int .i64 1) rfl) ?_
   refine w_done ?_
   obtain rfl := Option.some.inj he
   refine w_return fn_18 rs_18 (.tmp (v := .int .i64 1) rfl .nil) ?_
   exact ⟨⟨[_], rfl⟩, hle, rfl⟩
/-! ### (radome/wide.Int).Cmp -/
noncomputable def wide_Int_Cmp.C : Code := (Tryd.f16.body).getD .skip
def wide_Int_Cmp.out (r : Int) (H : Hp) (v : Value) : Prop := v = .int .i64 r
abbrev wide_Int_Cmp.R (H0 : Hp) (L : Items) (r : Int) : Value → Hp → Items → Prop := fun v H' L' => (∃ p, L' = p ++ L) ∧ H0.le H' ∧ wide_Int_Cmp.out r H' v
noncomputable def wide_Int_Cmp.f (k : Nat) (a : wide_Int) (b : wide_Int) : Option Int := (wide_Int_Sign.f k (⟨a.f_neg, a.f_w⟩ : wide_Int)).bind fun y3 => (wide_Int_Sign.f k (⟨b.f_neg, b.f_w⟩ : wide_Int)).bind fun y9 => (cmp_Compare_int.f k y3 y9).bind fun y13 => if ((!decide (y13 = 0)) || (!(a.f_neg == b.f_neg))) = true then (some (y13)) else (if a.f_neg = true then ((wide_less.f k b.f_w a.f_w).bind fun y24 => some (y24)) else ((wide_less.f k a.f_w b.f_w).bind fun y28 => some (y28)))
theorem wide_Int_Cmp.mono : ∀ k y0 y1, LeO (wide_Int_Cmp.f k y0 y1) (wide_Int_Cmp.f (k + 1) y0 y1) := fun k _ _ => by unfold wide_Int_Cmp.f; exact (LeO.bind (wide_Int_Sign.mono k _) fun _ => LeO.bind (wide_Int_Sign.mono k _) fun _ => LeO.bind (cmp_Compare_int.mono k _ _) fun _ => LeO.ite (LeO.refl _) (LeO.ite (LeO.bind (wide_less.mono k _ _) fun _ => LeO.refl _) (LeO.bind (wide_less.mono k _ _) fun _ => LeO.refl _)))
set_option maxRecDepth 100000 in
set_option maxHeartbeats 2000000 in
theorem wide_Int_Cmp.calls (k : Nat) {H : Hp} {L : Items} {a : wide_Int} {b : wide_Int} {v0_a : Value} {v1_b : Value} {r : Int} (he : wide_Int_Cmp.f k a b = some r) (h0_a : Ro (Kd.int .u32) H v0_a a.f_w) (h1_b : Ro (Kd.int .u32) H v1_b b.f_w) : Ct Tryd.prog 16 ⟨[.agg ⟨[.bool a.f_neg, v0_a]⟩, .agg ⟨[.bool b.f_neg, v1_b]⟩]⟩ H L (fun v H' L' => L = L' ∧ H = H' ∧ v = .int .i64 r) := by
 refine ct_outs (O := wide_Int_Cmp.out r) (fun _ _ h => h) ?_
 have hle : H.le H := .refl _
 unfold wide_Int_Cmp.f at he
 refine ct_enter (args := [.agg ⟨[.bool a.f_neg, v0_a]⟩, .agg ⟨[.bool b.f_neg, v1_b]⟩]) fn_16 rfl nt_16 rfl ?_
 refine w_seq ?_
 refine w_region rfl ?_
 refine w_a rfl (o_box (v := .agg ⟨[.bool a.f_neg, v0_a]⟩) rfl rfl) ?_
 rintro _ _ _ ⟨b1, rfl, rfl, rfl⟩
 refine w_a rfl (o_box (v := .agg ⟨[.bool b.f_neg, v1_b]⟩) rfl rfl) ?_
 rintro _ _ _ ⟨b2, rfl, rfl, rfl⟩
 refine w_d rfl (d_assign (v := .int .i64 0) rfl) ?_
 refine w_done ?_
 refine w_seq ?_
 refine w_seq ?_
 obtain ⟨y3, hy4, he⟩ := Option.bind_eq_some_iff.1 he
 refine w_drawn (p := 3) (tl := [3, 4, 5]) [[], [(0, some 6)], []] [some 6, some 7, some 8] (fctF (.is (.agg ⟨[.bool a.f_neg, v0_a]⟩) :: .is (.int .i64 y3) :: .is (.agg ⟨[.bool b.f_neg, v1_b]⟩) :: [])) (fun m_ => some (b2, .cells ⟨[.bool b.f_neg, v1_b]⟩ 30 (0, 0)) :: some (b1, .cells ⟨[.bool a.f_neg, v0_a]⟩ 30 (0, 0)) :: L) (fun _ => none) mixed (by kernel_rfl) (by kernel_rfl) rfl (fct_mono (by kernel_rfl)) ⟨(by intro H' m_ hH hm_ hu_; refine depK_nil ?_; exact s_d (m_ 0) rfl (d_loado (v := .agg ⟨[.bool a.f_neg, v0_a]⟩) ty30 rfl (.there .here) rfl rfl rfl rfl) (by exact rfl) rfl), (by intro H' m_ hH hm_ hu_; rintro _ rfl; refine depK_nil ?_; exact s_d (m_ 1) rfl (call_d (o_call co18 (vs := [.agg ⟨[.bool a.f_neg, v0_a]⟩]) rfl (wide_Int_Sign.calls k (a := (⟨a.f_neg, a.f_w⟩ : wide_Int)) hy4 (h0_a.mono hH)))) (by exact rfl) rfl), (by intro H' m_ hH hm_ hu_; refine depK_nil ?_; exact s_d (m_ 2) rfl (d_loado (v := .agg ⟨[.bool b.f_neg, v1_b]⟩) ty30 rfl .here rfl rfl rfl rfl) (by exact rfl) rfl), trivial⟩ ?_
 intro H7 e8
 rintro _ _ rfl _ _ rfl _ _ rfl
 obtain ⟨y9, hy10, he⟩ := Option.bind_eq_some_iff.1 he
 refine w_d rfl (call_d (o_call co18 (vs := [.agg ⟨[.bool b.f_neg, v1_b]⟩]) rfl (wide_Int_Sign.calls k (a := (⟨b.f_neg, b.f_w⟩ : wide_Int)) hy10 (h1_b.mono e8)))) ?_
 obtain ⟨y13, hy14, he⟩ := Option.bind_eq_some_iff.1 he
 refine w_d rfl (call_d (o_call co56 (vs := [.int .i64 y3, .int .i64 y9]) rfl (cmp_Compare_int.calls k hy14))) ?_
 refine w_d rfl (d_assign (v := .int .i64 y13) rfl) ?_
 refine w_done ?_
 refine w_seq ?_
 refine w_region rfl ?_
 refine w_d rfl (d_move (v := .int .i64 y13) rfl) ?_
 refine w_d rfl (d_neq rfl rfl) ?_
 refine w_d rfl (d_move (v := .bool (!decide (y13 = 0))) rfl) ?_
 refine w_g (g := !(!decide (y13 = 0))) rfl rfl rfl wn_f (fun g17 => d_fld (o' := 0) Tryd.underlying30 rfl sz4 rfl rfl rfl) ?_
 refine w_g (g := !(!decide (y13 = 0))) rfl rfl rfl wn_f (fun g18 => d_loado (v := .bool a.f_neg) ty4 (cvt g18) (.there .here) rfl rfl rfl rfl) ?_
 refine w_g (g := !(!decide (y13 = 0))) rfl rfl rfl wn_f (fun g19 => d_fld (o' := 0) Tryd.underlying30 rfl sz4 rfl rfl rfl) ?_
 refine w_g (g := !(!decide (y13 = 0))) rfl rfl rfl wn_f (fun g20 => d_loado (v := .bool b.f_neg) ty4 (cvt g20) .here rfl rfl rfl rfl) ?_
 refine w_g (g := !(!decide (y13 = 0))) rfl rfl rfl wn_f (fun g21 => d_neb (a := a.f_neg) (b := b.f_neg) Tryd.underlying4 (cvt g21) (cvt g21)) ?_
 refine w_d rfl (d_or' (b := (!decide (y13 = 0))) (p := (!(a.f_neg == b.f_neg))) rfl rfl rfl) ?_
 refine w_done ?_
 rcases its he with ⟨c22, he⟩ | ⟨c22, he⟩
 ·
  refine w_then rfl c22 ?_
  refine w_seq ?_
  refine w_region rfl ?_
  refine w_d rfl (d_move (v := .int .i64 y13) rfl) ?_
  refine w_d rfl (d_assign (v := .int .i64 y13) rfl) ?_
  refine w_done ?_
  obtain rfl := Option.some.inj he
  refine w_return fn_16 rs_16 (.tmp (v := .int .i64 y13) rfl .nil) ?_
  exact ⟨⟨[_, _], rfl⟩, hle.trans e8, rfl⟩
 ·
  refine w_else rfl (Bool.eq_false_iff.2 c22) ?_
  refine w_skip ?_
  refine w_seq ?_
  refine w_seq ?_
  refine w_region rfl ?_
  refine w_d rfl (d_fld (o' := 0) Tryd.underlying30 rfl sz4 rfl rfl rfl) ?_
  refine w_d rfl (d_loado (v := .bool a.f_neg) ty4 rfl (.there .here) rfl rfl rfl rfl) ?_
  refine w_done ?_
  rcases its he with ⟨c23, he⟩ | ⟨c23, he⟩
  ·
   refine w_then rfl c23 ?_
   refine w_seq ?_
   refine w_region rfl ?_
   refine w_d rfl (d_fld (o' := 1) Tryd.underlying30 rfl sz28 rfl rfl rfl) ?_
   refine w_d rfl (d_loado (v := v1_b) ty28 rfl .here rfl rfl rfl rfl) ?_
   refine w_d rfl (d_fld (o' := 1) Tryd.underlying30 rfl sz28 rfl rfl rfl) ?_
   refine w_d rfl (d_loado (v := v0_a) ty28 rfl (.there .here) rfl rfl rfl rfl) ?_
   obtain ⟨y24, hy25, he⟩ := Option.bind_eq_some_iff.1 he
   refine w_d rfl (call_d (o_call co47 (vs := [v1_b, v0_a]) rfl (wide_less.calls k hy25 ((h1_b.mono e8).src) ((h0_a.mono e8).src)))) ?_
   refine w_d rfl (d_assign (v := .int .i64 y24) rfl) ?_
   refine w_done ?_
   obtain rfl := Option.some.inj he
   refine w_return fn_16 rs_16 (.tmp (v := .int .i64 y24) rfl .nil) ?_
   exact ⟨⟨[_, _], rfl⟩, hle.trans e8, rfl⟩
  ·
   refine w_else rfl (Bool.eq_false_iff.2 c23) ?_
   refine w_skip ?_
   refine w_seq ?_
   refine w_region rfl ?_
   refine w_d rfl (d_fld (o' := 1) Tryd.underlying30 rfl sz28 rfl rfl rfl) ?_
   refine w_d rfl (d_loado (v := v0_a) ty28 rfl (.there .here) rfl rfl rfl rfl) ?_
   refine w_d rfl (d_fld (o' := 1) Tryd.underlying30 rfl sz28 rfl rfl rfl) ?_
   refine w_d rfl (d_loado (v := v1_b) ty28 rfl .here rfl rfl rfl rfl) ?_
   obtain ⟨y28, hy29, he⟩ := Option.bind_eq_some_iff.1 he
   refine w_d rfl (call_d (o_call co47 (vs := [v0_a, v1_b]) rfl (wide_less.calls k hy29 ((h0_a.mono e8).src) ((h1_b.mono e8).src)))) ?_
   refine w_d rfl (d_assign (v := .int .i64 y28) rfl) ?_
   refine w_done ?_
   obtain rfl := Option.some.inj he
   refine w_return fn_16 rs_16 (.tmp (v := .int .i64 y28) rfl .nil) ?_
   exact ⟨⟨[_, _], rfl⟩, hle.trans e8, rfl⟩
/-! ### radome/radomeref01.Cmp -/
noncomputable def radomeref01_Cmp.C : Code := (Tryd.f17.body).getD .skip
def radomeref01_Cmp.out (r : Int) (H : Hp) (v : Value) : Prop := v = .int .i64 r
abbrev radomeref01_Cmp.R (H0 : Hp) (L : Items) (r : Int) : Value → Hp → Items → Prop := fun v H' L' => (∃ p, L' = p ++ L) ∧ H0.le H' ∧ radomeref01_Cmp.out r H' v
noncomputable def radomeref01_Cmp.f (k : Nat) (a : radomeref01_Num) (b : radomeref01_Num) : Option Int := (radomeref01_Sub.f k (⟨a.f_Neg, a.f_D⟩ : radomeref01_Num) (⟨b.f_Neg, b.f_D⟩ : radomeref01_Num)).bind fun y3 => (radomeref01_Sign.f k (⟨y3.f_Neg, y3.f_D⟩ : radomeref01_Num)).bind fun y9 => some (y9)
theorem radomeref01_Cmp.mono : ∀ k y0 y1, LeO (radomeref01_Cmp.f k y0 y1) (radomeref01_Cmp.f (k + 1) y0 y1) := fun k _ _ => by unfold radomeref01_Cmp.f; exact (LeO.bind (radomeref01_Sub.mono k _ _) fun _ => LeO.bind (radomeref01_Sign.mono k _) fun _ => LeO.refl _)
set_option maxRecDepth 100000 in
set_option maxHeartbeats 2000000 in
theorem radomeref01_Cmp.calls (k : Nat) {H : Hp} {L : Items} {a : radomeref01_Num} {b : radomeref01_Num} {v0_a : Value} {v1_b : Value} {r : Int} (he : radomeref01_Cmp.f k a b = some r) (h0_a : Ro (Kd.int .i64) H v0_a a.f_D) (h1_b : Ro (Kd.int .i64) H v1_b b.f_D) : Ct Tryd.prog 17 ⟨[.agg ⟨[.bool a.f_Neg, v0_a]⟩, .agg ⟨[.bool b.f_Neg, v1_b]⟩]⟩ H L (fun v H' L' => L = L' ∧ H = H' ∧ v = .int .i64 r) := by
 refine ct_outs (O := radomeref01_Cmp.out r) (fun _ _ h => h) ?_
 have hle : H.le H := .refl _
 unfold radomeref01_Cmp.f at he
 refine ct_enter (args := [.agg ⟨[.bool a.f_Neg, v0_a]⟩, .agg ⟨[.bool b.f_Neg, v1_b]⟩]) fn_17 rfl nt_17 rfl ?_
 refine w_seq ?_
 refine w_region rfl ?_
 refine w_a rfl (o_box (v := .agg ⟨[.bool a.f_Neg, v0_a]⟩) rfl rfl) ?_
 rintro _ _ _ ⟨b1, rfl, rfl, rfl⟩
 refine w_a rfl (o_box (v := .agg ⟨[.bool b.f_Neg, v1_b]⟩) rfl rfl) ?_
 rintro _ _ _ ⟨b2, rfl, rfl, rfl⟩
 refine w_d rfl (d_assign (v := .int .i64 0) rfl) ?_
 refine w_done ?_
 refine w_seq ?_
 refine w_region rfl ?_
 refine w_d rfl (d_loado (v := .agg ⟨[.bool a.f_Neg, v0_a]⟩) ty26 rfl (.there .here) rfl rfl rfl rfl) ?_
 refine w_d rfl (d_loado (v := .agg ⟨[.bool b.f_Neg, v1_b]⟩) ty26 rfl .here rfl rfl rfl rfl) ?_
 obtain ⟨y3, hy4, he⟩ := Option.bind_eq_some_iff.1 he
 refine w_a rfl (o_call co14 (vs := [.agg ⟨[.bool a.f_Neg, v0_a]⟩, .agg ⟨[.bool b.f_Neg, v1_b]⟩]) rfl (radomeref01_Sub.calls k (a := (⟨a.f_Neg, a.f_D⟩ : radomeref01_Num)) (b := (⟨b.f_Neg, b.f_D⟩ : radomeref01_Num)) hy4 h0_a h1_b)) ?_
 rintro _ H5 _ ⟨rfl, e6, ⟨v7, rfl, h8⟩⟩
 obtain ⟨y9, hy10, he⟩ := Option.bind_eq_some_iff.1 he
 refine w_d rfl (call_d (o_call co19 (vs := [.agg ⟨[.bool y3.f_Neg, v7]⟩]) rfl (radomeref01_Sign.calls k (a := (⟨y3.f_Neg, y3.f_D⟩ : radomeref01_Num)) hy10 h8))) ?_
 refine w_d rfl (d_assign (v := .int .i64 y9) rfl) ?_
 refine w_done ?_
 obtain rfl := Option.some.inj he
 refine w_return fn_17 rs_17 (.tmp (v := .int .i64 y9) rfl .nil) ?_
 exact ⟨⟨[_, _], rfl⟩, hle.trans e6, rfl⟩
/-! ### math/bits.Len32 -/
noncomputable def bits_Len32.C : Code := (Tryd.f93.body).getD .skip
def bits_Len32.out (r : Int) (H : Hp) (v : Value) : Prop := v = .int .i64 r
abbrev bits_Len32.R (H0 : Hp) (L : Items) (r : Int) : Value → Hp → Items → Prop := fun v H' L' => (∃ p, L' = p ++ L) ∧ H0.le H' ∧ bits_Len32.out r H' v
noncomputable def bits_Len32.j2 (k : Nat)  (x : Int) (n : Int) : Option Int := if (0 : Int) ≤ (x) % 256 ∧ (x) % 256 < (str_4.size : Int) then (some (w64 (n + (w64 (bt str_4 ((x) % 256)))))) else none
noncomputable def bits_Len32.j1 (k : Nat)  (x : Int) (n : Int) : Option Int := if 256 ≤ x then (bits_Len32.j2 k (x / 256) (w64 (n + 8))) else (bits_Len32.j2 k x n)
noncomputable def bits_Len32.f (k : Nat) (x : Int) : Option Int := if 65536 ≤ x then (bits_Len32.j1 k (x / 65536) 16) else (bits_Len32.j1 k x 0)
theorem bits_Len32.j2_mono {k : Nat} : ∀ y0 y1, LeO (bits_Len32.j2 k y0 y1) (bits_Len32.j2 (k + 1) y0 y1) := fun _ _ => (LeO.ite (LeO.refl _) (LeO.refl _))
theorem bits_Len32.j1_mono {k : Nat} : ∀ y0 y1, LeO (bits_Len32.j1 k y0 y1) (bits_Len32.j1 (k + 1) y0 y1) := fun _ _ => (LeO.ite (bits_Len32.j2_mono (k := k)  _ _) (bits_Len32.j2_mono (k := k)  _ _))
theorem bits_Len32.mono : ∀ k y0, LeO (bits_Len32.f k y0) (bits_Len32.f (k + 1) y0) := fun k _ => by unfold bits_Len32.f; exact (LeO.ite (bits_Len32.j1_mono (k := k)  _ _) (bits_Len32.j1_mono (k := k)  _ _))
noncomputable def bits_Len32.Kj1 : List Item := .code (seqR (seqR bits_Len32.C)) :: []
noncomputable def bits_Len32.Kj2 : List Item := .code (seqR (seqR (seqR bits_Len32.C))) :: []
set_option maxRecDepth 100000 in
set_option maxHeartbeats 2000000 in
theorem bits_Len32.j2_ok {k : Nat} {H0 H : Hp} {L : Items} {r : Int} {jk_ : Nat → Value} {x : Int} {n : Int} (hle : H0.le H) (he : bits_Len32.j2 k x n = some r) : Wp Tryd.prog 93 19 bits_Len32.Kj2 (upd (upd jk_ 0 (.int .u32 x)) 2 (.int .i64 n)) H (L) (bits_Len32.R H0 L r) := by
 unfold bits_Len32.j2 at he
 unfold bits_Len32.Kj2
 refine w_seq ?_
 refine w_region rfl ?_
 refine w_d rfl (d_move (v := .int .i64 n) rfl) ?_
 refine w_d rfl (d_move (v := .int .u32 x) rfl) ?_
 refine w_d rfl (d_conv (c := (x) % 256) Tryd.underlying93 Tryd.underlying5 rfl rfl) ?_
 obtain ⟨c3, he⟩ := rq he
 refine w_d rfl (d_bt Tryd.underlying9 rfl rfl c3) ?_
 refine w_d rfl (d_conv (c := w64 (bt str_4 ((x) % 256))) Tryd.underlying5 Tryd.underlying3 rfl rfl) ?_
 refine w_d rfl (d_add (c := w64 (n + (w64 (bt str_4 ((x) % 256))))) rfl rfl rfl) ?_
 refine w_d rfl (d_assign (v := .int .i64 (w64 (n + (w64 (bt str_4 ((x) % 256)))))) rfl) ?_
 refine w_done ?_
 obtain rfl := Option.some.inj he
 refine w_return fn_93 rs_93 (.tmp (v := .int .i64 (w64 (n + (w64 (bt str_4 ((x) % 256)))))) rfl .nil) ?_
 exact ⟨⟨[], rfl⟩, hle, rfl⟩
set_option maxRecDepth 100000 in
set_option maxHeartbeats 2000000 in
theorem bits_Len32.j1_ok {k : Nat} {H0 H : Hp} {L : Items} {r : Int} {jk_ : Nat → Value} {x : Int} {n : Int} (hle : H0.le H) (he : bits_Len32.j1 k x n = some r) : Wp Tryd.prog 93 19 bits_Len32.Kj1 (upd (upd jk_ 0 (.int .u32 x)) 2 (.int .i64 n)) H (L) (bits_Len32.R H0 L r) := by
 unfold bits_Len32.j1 at he
 unfold bits_Len32.Kj1
 refine w_seq ?_
 refine w_seq ?_
 refine w_region rfl ?_
 refine w_d rfl (d_move (v := .int .u32 x) rfl) ?_
 refine w_d rfl (d_geq rfl rfl) ?_
 refine w_done ?_
 rcases its he with ⟨c2, he⟩ | ⟨c2, he⟩
 ·
  refine w_then rfl (decide_eq_true c2) ?_
  refine w_seq ?_
  refine w_region rfl ?_
  refine w_d rfl (d_move (v := .int .u32 x) rfl) ?_
  refine w_d rfl (d_shr (c := x / 256) rfl rfl (by decide) rfl) ?_
  refine w_d rfl (d_assign (v := .int .u32 (x / 256)) rfl) ?_
  refine w_done ?_
  refine w_region rfl ?_
  refine w_d rfl (d_move (v := .int .i64 n) rfl) ?_
  refine w_d rfl (d_add (c := w64 (n + 8)) rfl rfl rfl) ?_
  refine w_d rfl (d_assign (v := .int .i64 (w64 (n + 8))) rfl) ?_
  refine w_done ?_
  refine w_sl 0 (.int .u32 (x / 256)) rfl ?_
  refine w_sl 2 (.int .i64 (w64 (n + 8))) rfl ?_
  exact bits_Len32.j2_ok (k := k) hle he
 ·
  refine w_else rfl (decide_eq_false c2) ?_
  refine w_skip ?_
  refine w_sl 0 (.int .u32 x) rfl ?_
  refine w_sl 2 (.int .i64 n) rfl ?_
  exact bits_Len32.j2_ok (k := k) hle he
set_option maxRecDepth 100000 in
set_option maxHeartbeats 2000000 in
theorem bits_Len32.calls (k : Nat) {H : Hp} {L : Items} {x : Int} {r : Int} (he : bits_Len32.f k x = some r) : Ct Tryd.prog 93 ⟨[.int .u32 x]⟩ H L (fun v H' L' => L = L' ∧ H = H' ∧ v = .int .i64 r) := by
 refine ct_outs (O := bits_Len32.out r) (fun _ _ h => h) ?_
 have hle : H.le H := .refl _
 unfold bits_Len32.f at he
 refine ct_enter (args := [.int .u32 x]) fn_93 rfl nt_93 rfl ?_
 refine w_seq ?_
 refine w_region rfl ?_
 refine w_d rfl (d_assign (v := .int .i64 0) rfl) ?_
 refine w_done ?_
 refine w_seq ?_
 refine w_seq ?_
 refine w_region rfl ?_
 refine w_d rfl (d_move (v := .int .u32 x) rfl) ?_
 refine w_d rfl (d_geq rfl rfl) ?_
 refine w_done ?_
 rcases its he with ⟨c1, he⟩ | ⟨c1, he⟩
 ·
  refine w_then rfl (decide_eq_true c1) ?_
  refine w_seq ?_
  refine w_region rfl ?_
  refine w_d rfl (d_move (v := .int .u32 x) rfl) ?_
  refine w_d rfl (d_shr (c := x / 65536) rfl rfl (by decide) rfl) ?_
  refine w_d rfl (d_assign (v := .int .u32 (x / 65536)) rfl) ?_
  refine w_done ?_
  refine w_region rfl ?_
  refine w_d rfl (d_assign (v := .int .i64 16) rfl) ?_
  refine w_done ?_
  refine w_sl 0 (.int .u32 (x / 65536)) rfl ?_
  refine w_sl 2 (.int .i64 16) rfl ?_
  exact bits_Len32.j1_ok (k := k) hle he
 ·
  refine w_else rfl (decide_eq_false c1) ?_
  refine w_skip ?_
  refine w_sl 0 (.int .u32 x) rfl ?_
  refine w_sl 2 (.int .i64 0) rfl ?_
  exact bits_Len32.j1_ok (k := k) hle he
/-! ### math/bits.LeadingZeros32 -/
noncomputable def bits_LeadingZeros32.C : Code := (Tryd.f79.body).getD .skip
def bits_LeadingZeros32.out (r : Int) (H : Hp) (v : Value) : Prop := v = .int .i64 r
abbrev bits_LeadingZeros32.R (H0 : Hp) (L : Items) (r : Int) : Value → Hp → Items → Prop := fun v H' L' => (∃ p, L' = p ++ L) ∧ H0.le H' ∧ bits_LeadingZeros32.out r H' v
noncomputable def bits_LeadingZeros32.f (k : Nat) (x : Int) : Option Int := (bits_Len32.f k x).bind fun y1 => some (w64 (32 - y1))
theorem bits_LeadingZeros32.mono : ∀ k y0, LeO (bits_LeadingZeros32.f k y0) (bits_LeadingZeros32.f (k + 1) y0) := fun k _ => by unfold bits_LeadingZeros32.f; exact (LeO.bind (bits_Len32.mono k _) fun _ => LeO.refl _)
set_option maxRecDepth 100000 in
set_option maxHeartbeats 2000000 in
theorem bits_LeadingZeros32.calls (k : Nat) {H : Hp} {L : Items} {x : Int} {r : Int} (he : bits_LeadingZeros32.f k x = some r) : Ct Tryd.prog 79 ⟨[.int .u32 x]⟩ H L (fun v H' L' => L = L' ∧ H = H' ∧ v = .int .i64 r) := by
 refine ct_outs (O := bits_LeadingZeros32.out r) (fun _ _ h => h) ?_
 have hle : H.le H := .refl _
 unfold bits_LeadingZeros32.f at he
 refine ct_enter (args := [.int .u32 x]) fn_79 rfl nt_79 rfl ?_
 refine w_seq ?_
 refine w_region rfl ?_
 refine w_d rfl (d_assign (v := .int .i64 0) rfl) ?_
 refine w_done ?_
 refine w_seq ?_
 refine w_region rfl ?_
 refine w_d rfl (d_move (v := .int .u32 x) rfl) ?_
 obtain ⟨y1, hy2, he⟩ := Option.bind_eq_some_iff.1 he
 refine w_d rfl (call_d (o_call co93 (vs := [.int .u32 x]) rfl (bits_Len32.calls k hy2))) ?_
 refine w_d rfl (d_sub (c := w64 (32 - y1)) rfl rfl rfl) ?_
 refine w_d rfl (d_assign (v := .int .i64 (w64 (32 - y1))) rfl) ?_
 refine w_done ?_
 obtain rfl := Option.some.inj he
 refine w_return fn_79 rs_79 (.tmp (v := .int .i64 (w64 (32 - y1))) rfl .nil) ?_
 exact ⟨⟨[], rfl⟩, hle, rfl⟩
/-! ### radome/wide.up -/
noncomputable def wide_up.C : Code := (Tryd.f60.body).getD .skip
abbrev wide_up.out (r : (List Int)) (H : Hp) (v : Value) : Prop := Ro (Kd.int .u32) H v r
abbrev wide_up.R (H0 : Hp) (L : Items) (r : (List Int)) : Value → Hp → Items → Prop := fun v H' L' => (∃ p it, L' = p ++ it :: L ∧ Sl (Kd.int .u32) H' 93 it v r) ∧ H0.le H'
structure wide_up.Hs where
 l0 : Int → (List Int) → Int → (List Int) → Int → Int → Option (List Int)
noncomputable def wide_up.b0 (k : Nat) (h : wide_up.Hs)  (n : Int) (out : List Int) (carry : Int) (t14 : List Int) (t15 : Int) (t16 : Int) : Option (List Int) := if t16 < t15 then (if (0 : Int) ≤ t16 ∧ t16 < (t14.length : Int) then (if 0 ≤ n then (if out.length + 1 ≤ 35184372088704 then (h.l0 n (out ++ [(ior .u64 ((((rd t14 t16) % 18446744073709551616) * 2 ^ shn .u64 n) % 18446744073709551616) ((carry) % 18446744073709551616)) % 4294967296]) (((ior .u64 ((((rd t14 t16) % 18446744073709551616) * 2 ^ shn .u64 n) % 18446744073709551616) ((carry) % 18446744073709551616)) / 4294967296) % 4294967296) t14 t15 (w64 (t16 + 1))) else none) else none) else none) else (if out.length + 1 ≤ 35184372088704 then (some (out ++ [carry])) else none)
noncomputable def wide_up.hs : Nat → wide_up.Hs
 | 0 => ⟨fun _ _ _ _ _ _ => none⟩
 | k + 1 => ⟨fun x0 x1 x2 x3 x4 x5 => wide_up.b0 k (wide_up.hs k) x0 x1 x2 x3 x4 x5⟩
noncomputable def wide_up.f (k : Nat) (w : List Int) (n : Int) : Option (List Int) := (fun h : wide_up.Hs => if 0 ≤ 0 ∧ 0 ≤ w64 ((w.length : Int) + 1) ∧ w64 ((w.length : Int) + 1) ≤ 70368744177664 then (h.l0 n (List.replicate (0 : Int).toNat (0 : Int)) 0 w (w.length : Int) 0) else none) (wide_up.hs k)
structure wide_up.LE (h h' : wide_up.Hs) : Prop where
 l0 : ∀ y0 y1 y2 y3 y4 y5, LeO (h.l0 y0 y1 y2 y3 y4 y5) (h'.l0 y0 y1 y2 y3 y4 y5)
theorem wide_up.b0_mono {k : Nat} {h h' : wide_up.Hs} (hl : wide_up.LE h h') : ∀ y0 y1 y2 y3 y4 y5, LeO (wide_up.b0 k h y0 y1 y2 y3 y4 y5) (wide_up.b0 (k + 1) h' y0 y1 y2 y3 y4 y5) := fun _ _ _ _ _ _ => (LeO.ite (LeO.ite (LeO.ite (LeO.ite (hl.l0 _ _ _ _ _ _) (LeO.refl _)) (LeO.refl _)) (LeO.refl _)) (LeO.ite (LeO.refl _) (LeO.refl _)))
theorem wide_up.hs_mono : ∀ k, wide_up.LE (wide_up.hs k) (wide_up.hs (k + 1))
 | 0 => ⟨fun _ _ _ _ _ _ => LeO.none _⟩
 | k + 1 => ⟨wide_up.b0_mono (k := k) (wide_up.hs_mono k)⟩
theorem wide_up.mono : ∀ k y0 y1, LeO (wide_up.f k y0 y1) (wide_up.f (k + 1) y0 y1) := fun k _ _ => have hl := wide_up.hs_mono k; by unfold wide_up.f; exact (LeO.ite (hl.l0 _ _ _ _ _ _) (LeO.refl _))
noncomputable def wide_up.Kl0 : List Item := .code (lopB (blkB (seqR (seqL (seqR (seqR (seqR wide_up.C))))))) :: .inLoop (lopB (blkB (seqR (seqL (seqR (seqR (seqR wide_up.C))))))) :: .inBlock 0 :: .code (seqR (seqR (seqR (seqR wide_up.C)))) :: []
structure wide_up.OK (h : wide_up.Hs) : Prop where
 l0 : ∀ {H0 H : Hp} {L : Items} {r : (List Int)} {jk_ : Nat → Value} {n : Int} {out : List Int} {carry : Int} {t14 : List Int} {t15 : Int} {t16 : Int} {v_out : Value} {v_t14 : Value} {i_out : Item'} (_ : H0.le H) (_he : h.l0 n out carry t14 t15 t16 = some r) (_h_out : Sl (Kd.int .u32) H 93 i_out v_out out) (_h_t14 : Src (Kd.int .u32) H L v_t14 t14), Wp Tryd.prog 60 40 wide_up.Kl0 (upd (upd (upd (upd (upd (upd (upd jk_ 1 (.int .i64 n)) 4 (.slice none 0 0)) 5 (v_out)) 6 (.int .u32 carry)) 14 (v_t14)) 15 (.int .i64 t15)) 16 (.int .i64 t16)) H (i_out :: L) (wide_up.R H0 L r)
set_option maxRecDepth 100000 in
set_option maxHeartbeats 2000000 in
theorem wide_up.b0_ok {k : Nat} {h : wide_up.Hs} (hh : wide_up.OK h) {H0 H : Hp} {L : Items} {r : (List Int)} {jk_ : Nat → Value} {n : Int} {out : List Int} {carry : Int} {t14 : List Int} {t15 : Int} {t16 : Int} {v_out : Value} {v_t14 : Value} {i_out : Item'} (hle : H0.le H) (he : wide_up.b0 k h n out carry t14 t15 t16 = some r) (h_out : Sl (Kd.int .u32) H 93 i_out v_out out) (h_t14 : Src (Kd.int .u32) H L v_t14 t14) : Wp Tryd.prog 60 40 wide_up.Kl0 (upd (upd (upd (upd (upd (upd (upd jk_ 1 (.int .i64 n)) 4 (.slice none 0 0)) 5 (v_out)) 6 (.int .u32 carry)) 14 (v_t14)) 15 (.int .i64 t15)) 16 (.int .i64 t16)) H (i_out :: L) (wide_up.R H0 L r) := by
 unfold wide_up.b0 at he
 unfold wide_up.Kl0
 refine w_seq ?_
 refine w_region rfl ?_
 refine w_d rfl (d_lss rfl rfl) ?_
 refine w_done ?_
 refine w_seq ?_
 rcases its he with ⟨c5, he⟩ | ⟨c5, he⟩
 ·
  refine w_then rfl (decide_eq_true c5) ?_
  refine w_skip ?_
  refine w_seq ?_
  refine w_block ?_
  refine w_seq ?_
  refine w_region rfl ?_
  obtain ⟨c6, he⟩ := rq he
  refine w_d rfl (d_index (sz := 1) Tryd.underlying28 sz93 rfl h_t14.th rfl c6) ?_
  refine w_d rfl (d_ldint ty93 rfl h_t14.th c6) ?_
  refine w_d rfl (d_assign (v := .int .u32 (rd t14 t16)) rfl) ?_
  refine w_done ?_
  refine w_seq ?_
  refine w_region rfl ?_
  refine w_d rfl (d_move (v := .int .u32 (rd t14 t16)) rfl) ?_
  refine w_d rfl (d_conv (c := (rd t14 t16) % 18446744073709551616) Tryd.underlying93 Tryd.underlying99 rfl rfl) ?_
  refine w_d rfl (d_move (v := .int .i64 n) rfl) ?_
  obtain ⟨c7, he⟩ := rq he
  refine w_d rfl (d_shl (c := (((rd t14 t16) % 18446744073709551616) * 2 ^ shn .u64 n) % 18446744073709551616) rfl rfl c7 rfl) ?_
  refine w_d rfl (d_move (v := .int .u32 carry) rfl) ?_
  refine w_d rfl (d_conv (c := (carry) % 18446744073709551616) Tryd.underlying93 Tryd.underlying99 rfl rfl) ?_
  refine w_d rfl (d_bor rfl rfl) ?_
  refine w_d rfl (d_assign (v := .int .u64 (ior .u64 ((((rd t14 t16) % 18446744073709551616) * 2 ^ shn .u64 n) % 18446744073709551616) ((carry) % 18446744073709551616))) rfl) ?_
  refine w_done ?_
  refine w_seq ?_
  refine w_region rfl ?_
  refine w_d rfl (d_move (v := v_out) rfl) ?_
  refine w_d rfl (d_move (v := .int .u64 (ior .u64 ((((rd t14 t16) % 18446744073709551616) * 2 ^ shn .u64 n) % 18446744073709551616) ((carry) % 18446744073709551616))) rfl) ?_
  refine w_d rfl (d_conv (c := (ior .u64 ((((rd t14 t16) % 18446744073709551616) * 2 ^ shn .u64 n) % 18446744073709551616) ((carry) % 18446744073709551616)) % 4294967296) Tryd.underlying99 Tryd.underlying93 rfl rfl) ?_
  refine w_a rfl (o_buildSlice' (kd := (Kd.int .u32)) (css := [[.int .u32 ((ior .u64 ((((rd t14 t16) % 18446744073709551616) * 2 ^ shn .u64 n) % 18446744073709551616) ((carry) % 18446744073709551616)) % 4294967296)]]) (xs := [(ior .u64 ((((rd t14 t16) % 18446744073709551616) * 2 ^ shn .u64 n) % 18446744073709551616) ((carry) % 18446744073709551616)) % 4294967296]) (parts := [(0, .int .u32 ((ior .u64 ((((rd t14 t16) % 18446744073709551616) * 2 ^ shn .u64 n) % 18446744073709551616) ((carry) % 18446744073709551616)) % 4294967296))]) Tryd.underlying28 ti93 rfl ⟨_, _, rfl, rfl, rfl⟩ ⟨rfl, trivial⟩ rfl (by decide)) ?_
  rintro v8 _ _ ⟨i9, rfl, rfl, h10⟩
  obtain ⟨c11, he⟩ := rq he
  refine w_a rfl (o_append' (kd := (Kd.int .u32)) (F := fun z_ => i9 :: z_ :: L) Tryd.underlying28 Tryd.underlying28 ti93 rfl (by first | omega | (simp only [List.nil_append, List.length_cons, List.length_nil]; omega)) rfl rfl h_out (h10.src .here) (fun _ => (.there .here))) ?_
  rintro v12 _ _ ⟨i13, rfl, rfl, h14⟩
  refine w_d rfl (d_assign (v := v12) rfl) ?_
  refine w_done ?_
  refine w_region rfl ?_
  refine w_d rfl (d_move (v := .int .u64 (ior .u64 ((((rd t14 t16) % 18446744073709551616) * 2 ^ shn .u64 n) % 18446744073709551616) ((carry) % 18446744073709551616))) rfl) ?_
  refine w_d rfl (d_shr (c := (ior .u64 ((((rd t14 t16) % 18446744073709551616) * 2 ^ shn .u64 n) % 18446744073709551616) ((carry) % 18446744073709551616)) / 4294967296) rfl rfl (by decide) rfl) ?_
  refine w_d rfl (d_conv (c := ((ior .u64 ((((rd t14 t16) % 18446744073709551616) * 2 ^ shn .u64 n) % 18446744073709551616) ((carry) % 18446744073709551616)) / 4294967296) % 4294967296) Tryd.underlying99 Tryd.underlying93 rfl rfl) ?_
  refine w_d rfl (d_assign (v := .int .u32 (((ior .u64 ((((rd t14 t16) % 18446744073709551616) * 2 ^ shn .u64 n) % 18446744073709551616) ((carry) % 18446744073709551616)) / 4294967296) % 4294967296)) rfl) ?_
  refine w_done ?_
  refine w_inBlock ?_
  refine w_region rfl ?_
  refine w_d rfl (d_add (c := w64 (t16 + 1)) rfl rfl rfl) ?_
  refine w_d rfl (d_move (v := .int .i64 (w64 (t16 + 1))) rfl) ?_
  refine w_done ?_
  refine w_inLoop ?_
  refine w_del .here ?_
  refine w_sl 1 (.int .i64 n) rfl ?_
  refine w_sl 4 (.slice none 0 0) rfl ?_
  refine w_sl 5 (v12) rfl ?_
  refine w_sl 6 (.int .u32 (((ior .u64 ((((rd t14 t16) % 18446744073709551616) * 2 ^ shn .u64 n) % 18446744073709551616) ((carry) % 18446744073709551616)) / 4294967296) % 4294967296)) rfl ?_
  refine w_sl 14 (v_t14) rfl ?_
  refine w_sl 15 (.int .i64 t15) rfl ?_
  refine w_sl 16 (.int .i64 (w64 (t16 + 1))) rfl ?_
  exact hh.l0 hle he h14 h_t14
 ·
  refine w_else rfl (decide_eq_false c5) ?_
  refine w_exit rfl ?_
  refine w_seq ?_
  refine w_region rfl ?_
  refine w_d rfl (d_move (v := v_out) rfl) ?_
  refine w_d rfl (d_move (v := .int .u32 carry) rfl) ?_
  refine w_a rfl (o_buildSlice' (kd := (Kd.int .u32)) (css := [[.int .u32 carry]]) (xs := [carry]) (parts := [(0, .int .u32 carry)]) Tryd.underlying28 ti93 rfl ⟨_, _, rfl, rfl, rfl⟩ ⟨rfl, trivial⟩ rfl (by decide)) ?_
  rintro v15 _ _ ⟨i16, rfl, rfl, h17⟩
  obtain ⟨c18, he⟩ := rq he
  refine w_a rfl (o_append' (kd := (Kd.int .u32)) (F := fun z_ => i16 :: z_ :: L) Tryd.underlying28 Tryd.underlying28 ti93 rfl (by first | omega | (simp only [List.nil_append, List.length_cons, List.length_nil]; omega)) rfl rfl h_out (h17.src .here) (fun _ => (.there .here))) ?_
  rintro v19 _ _ ⟨i20, rfl, rfl, h21⟩
  refine w_d rfl (d_assign (v := v19) rfl) ?_
  refine w_done ?_
  obtain rfl := Option.some.inj he
  refine w_del .here ?_
  refine w_return fn_60 rs_60 (.tmp (v := v19) rfl .nil) ?_
  exact ⟨⟨[], _, rfl, h21⟩, hle⟩
theorem wide_up.ok : ∀ k, wide_up.OK (wide_up.hs k)
 | 0 => ⟨(by intros; exact nomatch (show none = some _ from by assumption))⟩
 | k + 1 => ⟨wide_up.b0_ok (k := k) (wide_up.ok k)⟩
set_option maxRecDepth 100000 in
set_option maxHeartbeats 2000000 in
theorem wide_up.calls (k : Nat) {H : Hp} {L : Items} {w : List Int} {n : Int} {v0_w : Value} {r : (List Int)} (he : wide_up.f k w n = some r) (h0_w : Src (Kd.int .u32) H L v0_w w) : Ct Tryd.prog 60 ⟨[v0_w, .int .i64 n]⟩ H L (fun v H' L' => ∃ it, L' = it :: L ∧ H.le H' ∧ Sl (Kd.int .u32) H' 93 it v r) := by
 refine ct_own ?_
 have hle : H.le H := .refl _
 have hh := wide_up.ok k
 unfold wide_up.f at he
 refine ct_enter (args := [v0_w, .int .i64 n]) fn_60 rfl nt_60 rfl ?_
 refine w_seq ?_
 refine w_region rfl ?_
 refine w_d rfl (d_assign (v := .slice none 0 0) rfl) ?_
 refine w_done ?_
 refine w_seq ?_
 refine w_region rfl ?_
 refine w_d rfl (d_move (v := v0_w) rfl) ?_
 refine w_d rfl (d_len Tryd.underlying28 rfl h0_w) ?_
 refine w_d rfl (d_add (c := w64 ((w.length : Int) + 1)) rfl rfl rfl) ?_
 obtain ⟨c1, he⟩ := rq he
 refine w_a rfl (o_make' (kd := (Kd.int .u32)) (z0 := 0) Tryd.underlying28 ti93 (zp93 _) rfl rfl (by omega) (by omega) (by omega)) ?_
 rintro v2 _ _ ⟨i3, rfl, rfl, h4⟩
 refine w_d rfl (d_assign (v := v2) rfl) ?_
 refine w_done ?_
 refine w_seq ?_
 refine w_region rfl ?_
 refine w_d rfl (d_assign (v := .int .u32 0) rfl) ?_
 refine w_done ?_
 refine w_seq ?_
 refine w_seq ?_
 refine w_region rfl ?_
 refine w_d rfl (d_move (v := v0_w) rfl) ?_
 refine w_d rfl (d_len Tryd.underlying28 rfl h0_w.th) ?_
 refine w_d rfl (d_move (v := .int .i64 0) rfl) ?_
 refine w_done ?_
 refine w_block ?_
 refine w_loop ?_
 refine w_sl 1 (.int .i64 n) rfl ?_
 refine w_sl 4 (.slice none 0 0) rfl ?_
 refine w_sl 5 (v2) rfl ?_
 refine w_sl 6 (.int .u32 0) rfl ?_
 refine w_sl 14 (v0_w) rfl ?_
 refine w_sl 15 (.int .i64 (w.length : Int)) rfl ?_
 refine w_sl 16 (.int .i64 0) rfl ?_
 exact hh.l0 hle he h4 h0_w
theorem wide_up.callsR (k : Nat) {H : Hp} {L : Items} {w : List Int} {n : Int} {v0_w : Value} {r : (List Int)} (he : wide_up.f k w n = some r) (h0_w : Src (Kd.int .u32) H L v0_w w) : Ct Tryd.prog 60 ⟨[v0_w, .int .i64 n]⟩ H L (fun v H' L' => L = L' ∧ H.le H' ∧ wide_up.out r H' v) := ct_ro (wide_up.calls k he h0_w)
/-! ### radome/wide.guess -/
noncomputable def wide_guess.C : Code := (Tryd.f80.body).getD .skip
def wide_guess.out (r : Int) (H : Hp) (v : Value) : Prop := v = .int .u64 r
abbrev wide_guess.R (H0 : Hp) (L : Items) (r : Int) : Value → Hp → Items → Prop := fun v H' L' => (∃ p, L' = p ++ L) ∧ H0.le H' ∧ wide_guess.out r H' v
structure wide_guess.Hs where
 l0 : (List Int) → (List Int) → Int → Int → Int → Int → Option Int
noncomputable def wide_guess.b0 (k : Nat) (h : wide_guess.Hs)  (r_ : List Int) (d : List Int) (i : Int) (n : Int) (q : Int) (left : Int) : Option Int := if (!(decide (4294967296 ≤ q))) = true → (0 : Int) ≤ w64 (n - 2) ∧ w64 (n - 2) < (d.length : Int) then (if (!(decide (4294967296 ≤ q))) = true → (0 : Int) ≤ w64 ((w64 (i + n)) - 2) ∧ w64 ((w64 (i + n)) - 2) < (r_.length : Int) then (if ((decide (4294967296 ≤ q)) || (decide ((ior .u64 ((left * 4294967296) % 18446744073709551616) ((rd r_ (w64 ((w64 (i + n)) - 2))) % 18446744073709551616)) < ((q * ((rd d (w64 (n - 2))) % 18446744073709551616)) % 18446744073709551616)))) = true then (if (0 : Int) ≤ w64 (n - 1) ∧ w64 (n - 1) < (d.length : Int) then (if 4294967296 ≤ ((left + ((rd d (w64 (n - 1))) % 18446744073709551616)) % 18446744073709551616) then (some ((q - 1) % 18446744073709551616)) else (h.l0 r_ d i n ((q - 1) % 18446744073709551616) ((left + ((rd d (w64 (n - 1))) % 18446744073709551616)) % 18446744073709551616))) else none) else (some (q))) else none) else none
noncomputable def wide_guess.hs : Nat → wide_guess.Hs
 | 0 => ⟨fun _ _ _ _ _ _ => none⟩
 | k + 1 => ⟨fun x0 x1 x2 x3 x4 x5 => wide_guess.b0 k (wide_guess.hs k) x0 x1 x2 x3 x4 x5⟩
noncomputable def wide_guess.f (k : Nat) (r_ : List Int) (d : List Int) (i : Int) : Option Int := (fun h : wide_guess.Hs => if (0 : Int) ≤ w64 (i + (d.length : Int)) ∧ w64 (i + (d.length : Int)) < (r_.length : Int) then (if (0 : Int) ≤ w64 ((w64 (i + (d.length : Int))) - 1) ∧ w64 ((w64 (i + (d.length : Int))) - 1) < (r_.length : Int) then (if (0 : Int) ≤ w64 ((d.length : Int) - 1) ∧ w64 ((d.length : Int) - 1) < (d.length : Int) then (if ((rd d (w64 ((d.length : Int) - 1))) % 18446744073709551616) ≠ 0 then (if (0 : Int) ≤ w64 ((d.length : Int) - 1) ∧ w64 ((d.length : Int) - 1) < (d.length : Int) then (if ((rd d (w64 ((d.length : Int) - 1))) % 18446744073709551616) ≠ 0 then (h.l0 r_ d i (d.length : Int) ((Int.tdiv (ior .u64 ((((rd r_ (w64 (i + (d.length : Int)))) % 18446744073709551616) * 4294967296) % 18446744073709551616) ((rd r_ (w64 ((w64 (i + (d.length : Int))) - 1))) % 18446744073709551616)) ((rd d (w64 ((d.length : Int) - 1))) % 18446744073709551616)) % 18446744073709551616) (Int.tmod (ior .u64 ((((rd r_ (w64 (i + (d.length : Int)))) % 18446744073709551616) * 4294967296) % 18446744073709551616) ((rd r_ (w64 ((w64 (i + (d.length : Int))) - 1))) % 18446744073709551616)) ((rd d (w64 ((d.length : Int) - 1))) % 18446744073709551616))) else none) else none) else none) else none) else none) else none) (wide_guess.hs k)
structure wide_guess.LE (h h' : wide_guess.Hs) : Prop where
 l0 : ∀ y0 y1 y2 y3 y4 y5, LeO (h.l0 y0 y1 y2 y3 y4 y5) (h'.l0 y0 y1 y2 y3 y4 y5)
theorem wide_guess.b0_mono {k : Nat} {h h' : wide_guess.Hs} (hl : wide_guess.LE h h') : ∀ y0 y1 y2 y3 y4 y5, LeO (wide_guess.b0 k h y0 y1 y2 y3 y4 y5) (wide_guess.b0 (k + 1) h' y0 y1 y2 y3 y4 y5) := fun _ _ _ _ _ _ => (LeO.ite (LeO.ite (LeO.ite (LeO.ite (LeO.ite (LeO.refl _) (hl.l0 _ _ _ _ _ _)) (LeO.refl _)) (LeO.refl _)) (LeO.refl _)) (LeO.refl _))
theorem wide_guess.hs_mono : ∀ k, wide_guess.LE (wide_guess.hs k) (wide_guess.hs (k + 1))
 | 0 => ⟨fun _ _ _ _ _ _ => LeO.none _⟩
 | k + 1 => ⟨wide_guess.b0_mono (k := k) (wide_guess.hs_mono k)⟩
theorem wide_guess.mono : ∀ k y0 y1 y2, LeO (wide_guess.f k y0 y1 y2) (wide_guess.f (k + 1) y0 y1 y2) := fun k _ _ _ => have hl := wide_guess.hs_mono k; by unfold wide_guess.f; exact (LeO.ite (LeO.ite (LeO.ite (LeO.ite (LeO.ite (LeO.ite (hl.l0 _ _ _ _ _ _) (LeO.refl _)) (LeO.refl _)) (LeO.refl _)) (LeO.refl _)) (LeO.refl _)) (LeO.refl _))
noncomputable def wide_guess.Kl0 : List Item := .code (lopB (blkB (seqL (seqR (seqR (seqR (seqR wide_guess.C))))))) :: .inLoop (lopB (blkB (seqL (seqR (seqR (seqR (seqR wide_guess.C))))))) :: .inBlock 0 :: .code (seqR (seqR (seqR (seqR (seqR wide_guess.C))))) :: []
structure wide_guess.OK (h : wide_guess.Hs) : Prop where
 l0 : ∀ {H0 H : Hp} {L : Items} {r : Int} {jk_ : Nat → Value} {r_ : List Int} {d : List Int} {i : Int} {n : Int} {q : Int} {left : Int} {v_r_ : Value} {v_d : Value} (_ : H0.le H) (_he : h.l0 r_ d i n q left = some r) (_h_r_ : Src (Kd.int .u32) H L v_r_ r_) (_h_d : Src (Kd.int .u32) H L v_d d), Wp Tryd.prog 80 83 wide_guess.Kl0 (upd (upd (upd (upd (upd (upd (upd jk_ 0 (v_r_)) 1 (v_d)) 2 (.int .i64 i)) 6 (.int .u64 0)) 7 (.int .i64 n)) 9 (.int .u64 q)) 10 (.int .u64 left)) H (L) (wide_guess.R H0 L r)
set_option maxRecDepth 100000 in
set_option maxHeartbeats 2000000 in
theorem wide_guess.b0_ok {k : Nat} {h : wide_guess.Hs} (hh : wide_guess.OK h) {H0 H : Hp} {L : Items} {r : Int} {jk_ : Nat → Value} {r_ : List Int} {d : List Int} {i : Int} {n : Int} {q : Int} {left : Int} {v_r_ : Value} {v_d : Value} (hle : H0.le H) (he : wide_guess.b0 k h r_ d i n q left = some r) (h_r_ : Src (Kd.int .u32) H L v_r_ r_) (h_d : Src (Kd.int .u32) H L v_d d) : Wp Tryd.prog 80 83 wide_guess.Kl0 (upd (upd (upd (upd (upd (upd (upd jk_ 0 (v_r_)) 1 (v_d)) 2 (.int .i64 i)) 6 (.int .u64 0)) 7 (.int .i64 n)) 9 (.int .u64 q)) 10 (.int .u64 left)) H (L) (wide_guess.R H0 L r) := by
 unfold wide_guess.b0 at he
 unfold wide_guess.Kl0
 refine w_seq ?_
 refine w_seq ?_
 obtain ⟨c16, he⟩ := rq he
 obtain ⟨c28, he⟩ := rq he
 refine w_drawn (p := 22) (tl := [22, 23]) [[], [(0, some 46)], [(1, some 47)], [(2, some 48)], [(2, some 48)], [(2, some 48)], [(2, some 48), (5, some 51)], [(2, some 48), (4, some 50), (6, some 52)], [(2, some 48), (7, some 53)], [(2, some 48), (8, some 54)], [(2, some 48), (3, some 49), (9, some 55)], [(2, some 48)], [(2, some 48), (11, some 57)], [(2, some 48)], [(2, some 48)], [(2, some 48)], [(2, some 48), (14, some 60), (15, some 61)], [(2, some 48), (16, some 62)], [(2, some 48), (13, some 59), (17, some 63)], [(2, some 48), (18, some 64)], [(2, some 48), (19, some 65)], [(2, some 48), (12, some 58), (20, some 66)]] [some 46, some 47, some 48, some 49, some 50, some 51, some 52, some 53, some 54, some 55, some 56, some 57, some 58, some 59, some 60, some 61, some 62, some 63, some 64, some 65, some 66, some 67] (fctF (.is (.int .u64 q) :: .is (.bool (decide (4294967296 ≤ q))) :: .is (.bool (decide (4294967296 ≤ q))) :: .is (cond (!(decide (4294967296 ≤ q))) (.int .u64 q) undef) :: .is (cond (!(decide (4294967296 ≤ q))) v_d undef) :: .is (cond (!(decide (4294967296 ≤ q))) (.int .i64 n) undef) :: .is (cond (!(decide (4294967296 ≤ q))) (.int .i64 (w64 (n - 2))) undef) :: .is (cond (!(decide (4294967296 ≤ q))) (.pointer (some (pel v_d (w64 (n - 2)) 1))) undef) :: .is (cond (!(decide (4294967296 ≤ q))) (.int .u32 (rd d (w64 (n - 2)))) undef) :: .is (cond (!(decide (4294967296 ≤ q))) (.int .u64 ((rd d (w64 (n - 2))) % 18446744073709551616)) undef) :: .is (cond (!(decide (4294967296 ≤ q))) (.int .u64 ((q * ((rd d (w64 (n - 2))) % 18446744073709551616)) % 18446744073709551616)) undef) :: .is (cond (!(decide (4294967296 ≤ q))) (.int .u64 left) undef) :: .is (cond (!(decide (4294967296 ≤ q))) (.int .u64 ((left * 4294967296) % 18446744073709551616)) undef) :: .is (cond (!(decide (4294967296 ≤ q))) v_r_ undef) :: .is (cond (!(decide (4294967296 ≤ q))) (.int .i64 i) undef) :: .is (cond (!(decide (4294967296 ≤ q))) (.int .i64 n) undef) :: .is (cond (!(decide (4294967296 ≤ q))) (.int .i64 (w64 (i + n))) undef) :: .is (cond (!(decide (4294967296 ≤ q))) (.int .i64 (w64 ((w64 (i + n)) - 2))) undef) :: .is (cond (!(decide (4294967296 ≤ q))) (.pointer (some (pel v_r_ (w64 ((w64 (i + n)) - 2)) 1))) undef) :: .is (cond (!(decide (4294967296 ≤ q))) (.int .u32 (rd r_ (w64 ((w64 (i + n)) - 2)))) undef) :: .is (cond (!(decide (4294967296 ≤ q))) (.int .u64 ((rd r_ (w64 ((w64 (i + n)) - 2))) % 18446744073709551616)) undef) :: .is (cond (!(decide (4294967296 ≤ q))) (.int .u64 (ior .u64 ((left * 4294967296) % 18446744073709551616) ((rd r_ (w64 ((w64 (i + n)) - 2))) % 18446744073709551616))) undef) :: [])) (fun m_ => L) (fun _ => none) mixed (by kernel_rfl) (by kernel_rfl) rfl (fct_mono (by kernel_rfl)) ⟨(by intro H' m_ hH hm_ hu_; refine depK_nil ?_; exact s_d (m_ 0) rfl (d_move (v := .int .u64 q) rfl) (by exact rfl) rfl), (by intro H' m_ hH hm_ hu_; rintro _ rfl; refine depK_nil ?_; exact s_d (m_ 1) rfl (d_geq rfl rfl) (by exact rfl) rfl), (by intro H' m_ hH hm_ hu_; rintro _ rfl; refine depK_nil ?_; exact s_d (m_ 2) rfl (d_move (v := .bool (decide (4294967296 ≤ q))) rfl) (by exact rfl) rfl), (by intro H' m_ hH hm_ hu_; rintro _ rfl; refine depK_nil ?_; exact s_g (g := !(decide (4294967296 ≤ q))) (m_ 3) rfl rfl rfl wn_f (fun g11 => d_move (v := .int .u64 q) rfl) rfl (by exact fun g_ => cvt g_) (by exact fun g_ => cnt g_)), (by intro H' m_ hH hm_ hu_; rintro _ rfl; refine depK_nil ?_; exact s_g (g := !(decide (4294967296 ≤ q))) (m_ 4) rfl rfl rfl wn_f (fun g12 => d_move (v := v_d) rfl) rfl (by exact fun g_ => cvt g_) (by exact fun g_ => cnt g_)), (by intro H' m_ hH hm_ hu_; rintro _ rfl; refine depK_nil ?_; exact s_g (g := !(decide (4294967296 ≤ q))) (m_ 5) rfl rfl rfl wn_f (fun g13 => d_move (v := .int .i64 n) rfl) rfl (by exact fun g_ => cvt g_) (by exact fun g_ => cnt g_)), (by intro H' m_ hH hm_ hu_; rintro _ rfl _ rfl; refine depK_nil ?_; exact s_g (g := !(decide (4294967296 ≤ q))) (m_ 6) rfl rfl rfl wn_f (fun g14 => d_sub (c := w64 (n - 2)) (cvt g14) rfl rfl) rfl (by exact fun g_ => cvt g_) (by exact fun g_ => cnt g_)), (by intro H' m_ hH hm_ hu_; rintro _ rfl _ rfl _ rfl; refine depK_nil ?_; exact s_g (g := !(decide (4294967296 ≤ q))) (m_ 7) rfl rfl rfl wn_f (fun g15 => d_index (sz := 1) Tryd.underlying28 sz93 (cvt g15) (h_d.mono hH) (cvt g15) (c16 g15)) rfl (by exact fun g_ => cvt g_) (by exact fun g_ => cnt g_)), (by intro H' m_ hH hm_ hu_; rintro _ rfl _ rfl; refine depK_nil ?_; exact s_g (g := !(decide (4294967296 ≤ q))) (m_ 8) rfl rfl rfl wn_f (fun g17 => d_ldint ty93 (cvt g17) (h_d.mono hH) (c16 g17)) rfl (by exact fun g_ => cvt g_) (by exact fun g_ => cnt g_)), (by intro H' m_ hH hm_ hu_; rintro _ rfl _ rfl; refine depK_nil ?_; exact s_g (g := !(decide (4294967296 ≤ q))) (m_ 9) rfl rfl rfl wn_f (fun g18 => d_conv (c := (rd d (w64 (n - 2))) % 18446744073709551616) Tryd.underlying93 Tryd.underlying99 (cvt g18) rfl) rfl (by exact fun g_ => cvt g_) (by exact fun g_ => cnt g_)), (by intro H' m_ hH hm_ hu_; rintro _ rfl _ rfl _ rfl; refine depK_nil ?_; exact s_g (g := !(decide (4294967296 ≤ q))) (m_ 10) rfl rfl rfl wn_f (fun g19 => d_mul (c := (q * ((rd d (w64 (n - 2))) % 18446744073709551616)) % 18446744073709551616) (cvt g19) (cvt g19) rfl) rfl (by exact fun g_ => cvt g_) (by exact fun g_ => cnt g_)), (by intro H' m_ hH hm_ hu_; rintro _ rfl; refine depK_nil ?_; exact s_g (g := !(decide (4294967296 ≤ q))) (m_ 11) rfl rfl rfl wn_f (fun g20 => d_move (v := .int .u64 left) rfl) rfl (by exact fun g_ => cvt g_) (by exact fun g_ => cnt g_)), (by intro H' m_ hH hm_ hu_; rintro _ rfl _ rfl; refine depK_nil ?_; exact s_g (g := !(decide (4294967296 ≤ q))) (m_ 12) rfl rfl rfl wn_f (fun g21 => d_shl (c := (left * 4294967296) % 18446744073709551616) (cvt g21) rfl (by decide) rfl) rfl (by exact fun g_ => cvt g_) (by exact fun g_ => cnt g_)), (by intro H' m_ hH hm_ hu_; rintro _ rfl; refine depK_nil ?_; exact s_g (g := !(decide (4294967296 ≤ q))) (m_ 13) rfl rfl rfl wn_f (fun g22 => d_move (v := v_r_) rfl) rfl (by exact fun g_ => cvt g_) (by exact fun g_ => cnt g_)), (by intro H' m_ hH hm_ hu_; rintro _ rfl; refine depK_nil ?_; exact s_g (g := !(decide (4294967296 ≤ q))) (m_ 14) rfl rfl rfl wn_f (fun g23 => d_move (v := .int .i64 i) rfl) rfl (by exact fun g_ => cvt g_) (by exact fun g_ => cnt g_)), (by intro H' m_ hH hm_ hu_; rintro _ rfl; refine depK_nil ?_; exact s_g (g := !(decide (4294967296 ≤ q))) (m_ 15) rfl rfl rfl wn_f (fun g24 => d_move (v := .int .i64 n) rfl) rfl (by exact fun g_ => cvt g_) (by exact fun g_ => cnt g_)), (by intro H' m_ hH hm_ hu_; rintro _ rfl _ rfl _ rfl; refine depK_nil ?_; exact s_g (g := !(decide (4294967296 ≤ q))) (m_ 16) rfl rfl rfl wn_f (fun g25 => d_add (c := w64 (i + n)) (cvt g25) (cvt g25) rfl) rfl (by exact fun g_ => cvt g_) (by exact fun g_ => cnt g_)), (by intro H' m_ hH hm_ hu_; rintro _ rfl _ rfl; refine depK_nil ?_; exact s_g (g := !(decide (4294967296 ≤ q))) (m_ 17) rfl rfl rfl wn_f (fun g26 => d_sub (c := w64 ((w64 (i + n)) - 2)) (cvt g26) rfl rfl) rfl (by exact fun g_ => cvt g_) (by exact fun g_ => cnt g_)), (by intro H' m_ hH hm_ hu_; rintro _ rfl _ rfl _ rfl; refine depK_nil ?_; exact s_g (g := !(decide (4294967296 ≤ q))) (m_ 18) rfl rfl rfl wn_f (fun g27 => d_index (sz := 1) Tryd.underlying28 sz93 (cvt g27) (h_r_.mono hH) (cvt g27) (c28 g27)) rfl (by exact fun g_ => cvt g_) (by exact fun g_ => cnt g_)), (by intro H' m_ hH hm_ hu_; rintro _ rfl _ rfl; refine depK_nil ?_; exact s_g (g := !(decide (4294967296 ≤ q))) (m_ 19) rfl rfl rfl wn_f (fun g29 => d_ldint ty93 (cvt g29) (h_r_.mono hH) (c28 g29)) rfl (by exact fun g_ => cvt g_) (by exact fun g_ => cnt g_)), (by intro H' m_ hH hm_ hu_; rintro _ rfl _ rfl; refine depK_nil ?_; exact s_g (g := !(decide (4294967296 ≤ q))) (m_ 20) rfl rfl rfl wn_f (fun g30 => d_conv (c := (rd r_ (w64 ((w64 (i + n)) - 2))) % 18446744073709551616) Tryd.underlying93 Tryd.underlying99 (cvt g30) rfl) rfl (by exact fun g_ => cvt g_) (by exact fun g_ => cnt g_)), (by intro H' m_ hH hm_ hu_; rintro _ rfl _ rfl _ rfl; refine depK_nil ?_; exact s_g (g := !(decide (4294967296 ≤ q))) (m_ 21) rfl rfl rfl wn_f (fun g31 => d_bor (cvt g31) (cvt g31)) rfl (by exact fun g_ => cvt g_) (by exact fun g_ => cnt g_)), trivial⟩ ?_
 intro H32 e33
 rintro _ _ rfl _ _ rfl _ _ rfl _ _ rfl _ _ rfl _ _ rfl _ _ rfl _ _ rfl _ _ rfl _ _ rfl _ _ rfl _ _ rfl _ _ rfl _ _ rfl _ _ rfl _ _ rfl _ _ rfl _ _ rfl _ _ rfl _ _ rfl _ _ rfl _ _ rfl
 refine w_g (g := !(decide (4294967296 ≤ q))) rfl rfl rfl wn_f (fun g34 => d_gtr (cvt g34) (cvt g34)) ?_
 refine w_d rfl (d_or' (b := (decide (4294967296 ≤ q))) (p := (decide ((ior .u64 ((left * 4294967296) % 18446744073709551616) ((rd r_ (w64 ((w64 (i + n)) - 2))) % 18446744073709551616)) < ((q * ((rd d (w64 (n - 2))) % 18446744073709551616)) % 18446744073709551616)))) rfl rfl rfl) ?_
 refine w_done ?_
 rcases its he with ⟨c35, he⟩ | ⟨c35, he⟩
 ·
  refine w_then rfl c35 ?_
  refine w_skip ?_
  refine w_block ?_
  refine w_seq ?_
  refine w_region rfl ?_
  refine w_d rfl (d_move (v := .int .u64 q) rfl) ?_
  refine w_d rfl (d_sub (c := (q - 1) % 18446744073709551616) rfl rfl rfl) ?_
  refine w_d rfl (d_assign (v := .int .u64 ((q - 1) % 18446744073709551616)) rfl) ?_
  refine w_done ?_
  refine w_seq ?_
  refine w_region rfl ?_
  refine w_d rfl (d_move (v := .int .u64 left) rfl) ?_
  refine w_d rfl (d_move (v := v_d) rfl) ?_
  refine w_d rfl (d_move (v := .int .i64 n) rfl) ?_
  refine w_d rfl (d_sub (c := w64 (n - 1)) rfl rfl rfl) ?_
  obtain ⟨c36, he⟩ := rq he
  refine w_d rfl (d_index (sz := 1) Tryd.underlying28 sz93 rfl (h_d.mono e33) rfl c36) ?_
  refine w_d rfl (d_ldint ty93 rfl (h_d.mono e33) c36) ?_
  refine w_d rfl (d_conv (c := (rd d (w64 (n - 1))) % 18446744073709551616) Tryd.underlying93 Tryd.underlying99 rfl rfl) ?_
  refine w_d rfl (d_add (c := (left + ((rd d (w64 (n - 1))) % 18446744073709551616)) % 18446744073709551616) rfl rfl rfl) ?_
  refine w_d rfl (d_assign (v := .int .u64 ((left + ((rd d (w64 (n - 1))) % 18446744073709551616)) % 18446744073709551616)) rfl) ?_
  refine w_done ?_
  refine w_seq ?_
  refine w_region rfl ?_
  refine w_d rfl (d_move (v := .int .u64 ((left + ((rd d (w64 (n - 1))) % 18446744073709551616)) % 18446744073709551616)) rfl) ?_
  refine w_d rfl (d_geq rfl rfl) ?_
  refine w_done ?_
  rcases its he with ⟨c37, he⟩ | ⟨c37, he⟩
  ·
   refine w_then rfl (decide_eq_true c37) ?_
   refine w_exit rfl ?_
   refine w_seq ?_
   refine w_region rfl ?_
   refine w_d rfl (d_move (v := .int .u64 ((q - 1) % 18446744073709551616)) rfl) ?_
   refine w_d rfl (d_assign (v := .int .u64 ((q - 1) % 18446744073709551616)) rfl) ?_
   refine w_done ?_
   obtain rfl := Option.some.inj he
   refine w_return fn_80 rs_80 (.tmp (v := .int .u64 ((q - 1) % 18446744073709551616)) rfl .nil) ?_
   exact ⟨⟨[], rfl⟩, hle.trans e33, rfl⟩
  ·
   refine w_else rfl (decide_eq_false c37) ?_
   refine w_skip ?_
   refine w_inBlock ?_
   refine w_inLoop ?_
   refine w_sl 0 (v_r_) rfl ?_
   refine w_sl 1 (v_d) rfl ?_
   refine w_sl 2 (.int .i64 i) rfl ?_
   refine w_sl 6 (.int .u64 0) rfl ?_
   refine w_sl 7 (.int .i64 n) rfl ?_
   refine w_sl 9 (.int .u64 ((q - 1) % 18446744073709551616)) rfl ?_
   refine w_sl 10 (.int .u64 ((left + ((rd d (w64 (n - 1))) % 18446744073709551616)) % 18446744073709551616)) rfl ?_
   exact hh.l0 (hle.trans e33) he (h_r_.mono e33) (h_d.mono e33)
 ·
  refine w_else rfl (Bool.eq_false_iff.2 c35) ?_
  refine w_exit rfl ?_
  refine w_seq ?_
  refine w_region rfl ?_
  refine w_d rfl (d_move (v := .int .u64 q) rfl) ?_
  refine w_d rfl (d_assign (v := .int .u64 q) rfl) ?_
  refine w_done ?_
  obtain rfl := Option.some.inj he
  refine w_return fn_80 rs_80 (.tmp (v := .int .u64 q) rfl .nil) ?_
  exact ⟨⟨[], rfl⟩, hle.trans e33, rfl⟩
theorem wide_guess.ok : ∀ k, wide_guess.OK (wide_guess.hs k)
 | 0 => ⟨(by intros; exact nomatch (show none = some _ from by assumption))⟩
 | k + 1 => ⟨wide_guess.b0_ok (k := k) (wide_guess.ok k)⟩
set_option maxRecDepth 100000 in
set_option maxHeartbeats 2000000 in
theorem wide_guess.calls (k : Nat) {H : Hp} {L : Items} {r_ : List Int} {d : List Int} {i : Int} {v0_r_ : Value} {v1_d : Value} {r : Int} (he : wide_guess.f k r_ d i = some r) (h0_r_ : Src (Kd.int .u32) H L v0_r_ r_) (h1_d : Src (Kd.int .u32) H L v1_d d) : Ct Tryd.prog 80 ⟨[v0_r_, v1_d, .int .i64 i]⟩ H L (fun v H' L' => L = L' ∧ H = H' ∧ v = .int .u64 r) := by
 refine ct_outs (O := wide_guess.out r) (fun _ _ h => h) ?_
 have hle : H.le H := .refl _
 have hh := wide_guess.ok k
 unfold wide_guess.f at he
 refine ct_enter (args := [v0_r_, v1_d, .int .i64 i]) fn_80 rfl nt_80 rfl ?_
 refine w_seq ?_
 refine w_region rfl ?_
 refine w_d rfl (d_assign (v := .int .u64 0) rfl) ?_
 refine w_done ?_
 refine w_seq ?_
 refine w_region rfl ?_
 refine w_d rfl (d_move (v := v1_d) rfl) ?_
 refine w_d rfl (d_len Tryd.underlying28 rfl h1_d) ?_
 refine w_d rfl (d_assign (v := .int .i64 (d.length : Int)) rfl) ?_
 refine w_done ?_
 refine w_seq ?_
 obtain ⟨c1, he⟩ := rq he
 obtain ⟨c2, he⟩ := rq he
 refine w_drawn (p := 16) (tl := [16, 17]) [[], [], [], [(1, some 14), (2, some 15)], [(0, some 13), (3, some 16)], [(4, some 17)], [(5, some 18)], [(6, some 19)], [], [], [], [(9, some 22), (10, some 23)], [(11, some 24)], [(8, some 21), (12, some 25)], [(13, some 26)], [(14, some 27)]] [some 13, some 14, some 15, some 16, some 17, some 18, some 19, some 20, some 21, some 22, some 23, some 24, some 25, some 26, some 27, some 28] (fctF (.is (v0_r_) :: .is (.int .i64 i) :: .is (.int .i64 (d.length : Int)) :: .is (.int .i64 (w64 (i + (d.length : Int)))) :: .is (.pointer (some (pel v0_r_ (w64 (i + (d.length : Int))) 1))) :: .is (.int .u32 (rd r_ (w64 (i + (d.length : Int))))) :: .is (.int .u64 ((rd r_ (w64 (i + (d.length : Int)))) % 18446744073709551616)) :: .is (.int .u64 ((((rd r_ (w64 (i + (d.length : Int)))) % 18446744073709551616) * 4294967296) % 18446744073709551616)) :: .is (v0_r_) :: .is (.int .i64 i) :: .is (.int .i64 (d.length : Int)) :: .is (.int .i64 (w64 (i + (d.length : Int)))) :: .is (.int .i64 (w64 ((w64 (i + (d.length : Int))) - 1))) :: .is (.pointer (some (pel v0_r_ (w64 ((w64 (i + (d.length : Int))) - 1)) 1))) :: .is (.int .u32 (rd r_ (w64 ((w64 (i + (d.length : Int))) - 1)))) :: .is (.int .u64 ((rd r_ (w64 ((w64 (i + (d.length : Int))) - 1))) % 18446744073709551616)) :: [])) (fun m_ => L) (fun _ => none) mixed (by kernel_rfl) (by kernel_rfl) rfl (fct_mono (by kernel_rfl)) ⟨(by intro H' m_ hH hm_ hu_; refine depK_nil ?_; exact s_d (m_ 0) rfl (d_move (v := v0_r_) rfl) (by exact rfl) rfl), (by intro H' m_ hH hm_ hu_; refine depK_nil ?_; exact s_d (m_ 1) rfl (d_move (v := .int .i64 i) rfl) (by exact rfl) rfl), (by intro H' m_ hH hm_ hu_; refine depK_nil ?_; exact s_d (m_ 2) rfl (d_move (v := .int .i64 (d.length : Int)) rfl) (by exact rfl) rfl), (by intro H' m_ hH hm_ hu_; rintro _ rfl _ rfl; refine depK_nil ?_; exact s_d (m_ 3) rfl (d_add (c := w64 (i + (d.length : Int))) rfl rfl rfl) (by exact rfl) rfl), (by intro H' m_ hH hm_ hu_; rintro _ rfl _ rfl; refine depK_nil ?_; exact s_d (m_ 4) rfl (d_index (sz := 1) Tryd.underlying28 sz93 rfl (h0_r_.mono hH) rfl c1) (by exact rfl) rfl), (by intro H' m_ hH hm_ hu_; rintro _ rfl; refine depK_nil ?_; exact s_d (m_ 5) rfl (d_ldint ty93 rfl (h0_r_.mono hH) c1) (by exact rfl) rfl), (by intro H' m_ hH hm_ hu_; rintro _ rfl; refine depK_nil ?_; exact s_d (m_ 6) rfl (d_conv (c := (rd r_ (w64 (i + (d.length : Int)))) % 18446744073709551616) Tryd.underlying93 Tryd.underlying99 rfl rfl) (by exact rfl) rfl), (by intro H' m_ hH hm_ hu_; rintro _ rfl; refine depK_nil ?_; exact s_d (m_ 7) rfl (d_shl (c := (((rd r_ (w64 (i + (d.length : Int)))) % 18446744073709551616) * 4294967296) % 18446744073709551616) rfl rfl (by decide) rfl) (by exact rfl) rfl), (by intro H' m_ hH hm_ hu_; refine depK_nil ?_; exact s_d (m_ 8) rfl (d_move (v := v0_r_) rfl) (by exact rfl) rfl), (by intro H' m_ hH hm_ hu_; refine depK_nil ?_; exact s_d (m_ 9) rfl (d_move (v := .int .i64 i) rfl) (by exact rfl) rfl), (by intro H' m_ hH hm_ hu_; refine depK_nil ?_; exact s_d (m_ 10) rfl (d_move (v := .int .i64 (d.length : Int)) rfl) (by exact rfl) rfl), (by intro H' m_ hH hm_ hu_; rintro _ rfl _ rfl; refine depK_nil ?_; exact s_d (m_ 11) rfl (d_add (c := w64 (i + (d.length : Int))) rfl rfl rfl) (by exact rfl) rfl), (by intro H' m_ hH hm_ hu_; rintro _ rfl; refine depK_nil ?_; exact s_d (m_ 12) rfl (d_sub (c := w64 ((w64 (i + (d.length : Int))) - 1)) rfl rfl rfl) (by exact rfl) rfl), (by intro H' m_ hH hm_ hu_; rintro _ rfl _ rfl; refine depK_nil ?_; exact s_d (m_ 13) rfl (d_index (sz := 1) Tryd.underlying28 sz93 rfl (h0_r_.mono hH) rfl c2) (by exact rfl) rfl), (by intro H' m_ hH hm_ hu_; rintro _ rfl; refine depK_nil ?_; exact s_d (m_ 14) rfl (d_ldint ty93 rfl (h0_r_.mono hH) c2) (by exact rfl) rfl), (by intro H' m_ hH hm_ hu_; rintro _ rfl; refine depK_nil ?_; exact s_d (m_ 15) rfl (d_conv (c := (rd r_ (w64 ((w64 (i + (d.length : Int))) - 1))) % 18446744073709551616) Tryd.underlying93 Tryd.underlying99 rfl rfl) (by exact rfl) rfl), trivial⟩ ?_
 intro H3 e4
 rintro _ _ rfl _ _ rfl _ _ rfl _ _ rfl _ _ rfl _ _ rfl _ _ rfl _ _ rfl _ _ rfl _ _ rfl _ _ rfl _ _ rfl _ _ rfl _ _ rfl _ _ rfl _ _ rfl
 refine w_d rfl (d_bor rfl rfl) ?_
 refine w_d rfl (d_assign (v := .int .u64 (ior .u64 ((((rd r_ (w64 (i + (d.length : Int)))) % 18446744073709551616) * 4294967296) % 18446744073709551616) ((rd r_ (w64 ((w64 (i + (d.length : Int))) - 1))) % 18446744073709551616))) rfl) ?_
 refine w_done ?_
 refine w_seq ?_
 obtain ⟨c5, he⟩ := rq he
 obtain ⟨c6, he⟩ := rq he
 obtain ⟨c7, he⟩ := rq he
 obtain ⟨c8, he⟩ := rq he
 refine w_drawn (p := 17) (tl := [17]) [[], [], [], [(2, some 32)], [(1, some 31), (3, some 33)], [(4, some 34)], [(5, some 35)], [(0, some 30), (6, some 36)], [], [], [], [(10, some 40)], [(9, some 39), (11, some 41)], [(12, some 42)], [(13, some 43)], [(8, some 38), (14, some 44)], [(7, some 37)]] [some 30, some 31, some 32, some 33, some 34, some 35, some 36, some 37, some 38, some 39, some 40, some 41, some 42, some 43, some 44, some 45, some 9] (fctF (.is (.int .u64 (ior .u64 ((((rd r_ (w64 (i + (d.length : Int)))) % 18446744073709551616) * 4294967296) % 18446744073709551616) ((rd r_ (w64 ((w64 (i + (d.length : Int))) - 1))) % 18446744073709551616))) :: .is (v1_d) :: .is (.int .i64 (d.length : Int)) :: .is (.int .i64 (w64 ((d.length : Int) - 1))) :: .is (.pointer (some (pel v1_d (w64 ((d.length : Int) - 1)) 1))) :: .is (.int .u32 (rd d (w64 ((d.length : Int) - 1)))) :: .is (.int .u64 ((rd d (w64 ((d.length : Int) - 1))) % 18446744073709551616)) :: .is (.int .u64 ((Int.tdiv (ior .u64 ((((rd r_ (w64 (i + (d.length : Int)))) % 18446744073709551616) * 4294967296) % 18446744073709551616) ((rd r_ (w64 ((w64 (i + (d.length : Int))) - 1))) % 18446744073709551616)) ((rd d (w64 ((d.length : Int) - 1))) % 18446744073709551616)) % 18446744073709551616)) :: .is (.int .u64 (ior .u64 ((((rd r_ (w64 (i + (d.length : Int)))) % 18446744073709551616) * 4294967296) % 18446744073709551616) ((rd r_ (w64 ((w64 (i + (d.length : Int))) - 1))) % 18446744073709551616))) :: .is (v1_d) :: .is (.int .i64 (d.length : Int)) :: .is (.int .i64 (w64 ((d.length : Int) - 1))) :: .is (.pointer (some (pel v1_d (w64 ((d.length : Int) - 1)) 1))) :: .is (.int .u32 (rd d (w64 ((d.length : Int) - 1)))) :: .is (.int .u64 ((rd d (w64 ((d.length : Int) - 1))) % 18446744073709551616)) :: .is (.int .u64 (Int.tmod (ior .u64 ((((rd r_ (w64 (i + (d.length : Int)))) % 18446744073709551616) * 4294967296) % 18446744073709551616) ((rd r_ (w64 ((w64 (i + (d.length : Int))) - 1))) % 18446744073709551616)) ((rd d (w64 ((d.length : Int) - 1))) % 18446744073709551616))) :: .is (.int .u64 ((Int.tdiv (ior .u64 ((((rd r_ (w64 (i + (d.length : Int)))) % 18446744073709551616) * 4294967296) % 18446744073709551616) ((rd r_ (w64 ((w64 (i + (d.length : Int))) - 1))) % 18446744073709551616)) ((rd d (w64 ((d.length : Int) - 1))) % 18446744073709551616)) % 18446744073709551616)) :: [])) (fun m_ => L) (fun _ => none) mixed (by kernel_rfl) (by kernel_rfl) rfl (fct_mono (by kernel_rfl)) ⟨(by intro H' m_ hH hm_ hu_; refine depK_nil ?_; exact s_d (m_ 0) rfl (d_move (v := .int .u64 (ior .u64 ((((rd r_ (w64 (i + (d.length : Int)))) % 18446744073709551616) * 4294967296) % 18446744073709551616) ((rd r_ (w64 ((w64 (i + (d.length : Int))) - 1))) % 18446744073709551616))) rfl) (by exact rfl) rfl), (by intro H' m_ hH hm_ hu_; refine depK_nil ?_; exact s_d (m_ 1) rfl (d_move (v := v1_d) rfl) (by exact rfl) rfl), (by intro H' m_ hH hm_ hu_; refine depK_nil ?_; exact s_d (m_ 2) rfl (d_move (v := .int .i64 (d.length : Int)) rfl) (by exact rfl) rfl), (by intro H' m_ hH hm_ hu_; rintro _ rfl; refine depK_nil ?_; exact s_d (m_ 3) rfl (d_sub (c := w64 ((d.length : Int) - 1)) rfl rfl rfl) (by exact rfl) rfl), (by intro H' m_ hH hm_ hu_; rintro _ rfl _ rfl; refine depK_nil ?_; exact s_d (m_ 4) rfl (d_index (sz := 1) Tryd.underlying28 sz93 rfl (h1_d.mono (e4.trans hH)) rfl c5) (by exact rfl) rfl), (by intro H' m_ hH hm_ hu_; rintro _ rfl; refine depK_nil ?_; exact s_d (m_ 5) rfl (d_ldint ty93 rfl (h1_d.mono (e4.trans hH)) c5) (by exact rfl) rfl), (by intro H' m_ hH hm_ hu_; rintro _ rfl; refine depK_nil ?_; exact s_d (m_ 6) rfl (d_conv (c := (rd d (w64 ((d.length : Int) - 1))) % 18446744073709551616) Tryd.underlying93 Tryd.underlying99 rfl rfl) (by exact rfl) rfl), (by intro H' m_ hH hm_ hu_; rintro _ rfl _ rfl; refine depK_nil ?_; exact s_d (m_ 7) rfl (d_quo (c := (Int.tdiv (ior .u64 ((((rd r_ (w64 (i + (d.length : Int)))) % 18446744073709551616) * 4294967296) % 18446744073709551616) ((rd r_ (w64 ((w64 (i + (d.length : Int))) - 1))) % 18446744073709551616)) ((rd d (w64 ((d.length : Int) - 1))) % 18446744073709551616)) % 18446744073709551616) rfl rfl c6 rfl) (by exact rfl) rfl), (by intro H' m_ hH hm_ hu_; refine depK_nil ?_; exact s_d (m_ 8) rfl (d_move (v := .int .u64 (ior .u64 ((((rd r_ (w64 (i + (d.length : Int)))) % 18446744073709551616) * 4294967296) % 18446744073709551616) ((rd r_ (w64 ((w64 (i + (d.length : Int))) - 1))) % 18446744073709551616))) rfl) (by exact rfl) rfl), (by intro H' m_ hH hm_ hu_; refine depK_nil ?_; exact s_d (m_ 9) rfl (d_move (v := v1_d) rfl) (by exact rfl) rfl), (by intro H' m_ hH hm_ hu_; refine depK_nil ?_; exact s_d (m_ 10) rfl (d_move (v := .int .i64 (d.length : Int)) rfl) (by exact rfl) rfl), (by intro H' m_ hH hm_ hu_; rintro _ rfl; refine depK_nil ?_; exact s_d (m_ 11) rfl (d_sub (c := w64 ((d.length : Int) - 1)) rfl rfl rfl) (by exact rfl) rfl), (by intro H' m_ hH hm_ hu_; rintro _ rfl _ rfl; refine depK_nil ?_; exact s_d (m_ 12) rfl (d_index (sz := 1) Tryd.underlying28 sz93 rfl (h1_d.mono (e4.trans hH)) rfl c7) (by exact rfl) rfl), (by intro H' m_ hH hm_ hu_; rintro _ rfl; refine depK_nil ?_; exact s_d (m_ 13) rfl (d_ldint ty93 rfl (h1_d.mono (e4.trans hH)) c7) (by exact rfl) rfl), (by intro H' m_ hH hm_ hu_; rintro _ rfl; refine depK_nil ?_; exact s_d (m_ 14) rfl (d_conv (c := (rd d (w64 ((d.length : Int) - 1))) % 18446744073709551616) Tryd.underlying93 Tryd.underlying99 rfl rfl) (by exact rfl) rfl), (by intro H' m_ hH hm_ hu_; rintro _ rfl _ rfl; refine depK_nil ?_; exact s_d (m_ 15) rfl (d_rem rfl rfl c8) (by exact rfl) rfl), (by intro H' m_ hH hm_ hu_; rintro _ rfl; refine depK_nil ?_; exact s_d (m_ 16) rfl (d_assign (v := .int .u64 ((Int.tdiv (ior .u64 ((((rd r_ (w64 (i + (d.length : Int)))) % 18446744073709551616) * 4294967296) % 18446744073709551616) ((rd r_ (w64 ((w64 (i + (d.length : Int))) - 1))) % 18446744073709551616)) ((rd d (w64 ((d.length : Int) - 1))) % 18446744073709551616)) % 18446744073709551616)) rfl) (by exact rfl) rfl), trivial⟩ ?_
 intro H9 e10
 rintro _ _ rfl _ _ rfl _ _ rfl _ _ rfl _ _ rfl _ _ rfl _ _ rfl _ _ rfl _ _ rfl _ _ rfl _ _ rfl _ _ rfl _ _ rfl _ _ rfl _ _ rfl _ _ rfl _ _ rfl
 refine w_d rfl (d_assign (v := .int .u64 (Int.tmod (ior .u64 ((((rd r_ (w64 (i + (d.length : Int)))) % 18446744073709551616) * 4294967296) % 18446744073709551616) ((rd r_ (w64 ((w64 (i + (d.length : Int))) - 1))) % 18446744073709551616)) ((rd d (w64 ((d.length : Int) - 1))) % 18446744073709551616))) rfl) ?_
 refine w_done ?_
 refine w_seq ?_
 refine w_block ?_
 refine w_loop ?_
 refine w_sl 0 (v0_r_) rfl ?_
 refine w_sl 1 (v1_d) rfl ?_
 refine w_sl 2 (.int .i64 i) rfl ?_
 refine w_sl 6 (.int .u64 0) rfl ?_
 refine w_sl 7 (.int .i64 (d.length : Int)) rfl ?_
 refine w_sl 9 (.int .u64 ((Int.tdiv (ior .u64 ((((rd r_ (w64 (i + (d.length : Int)))) % 18446744073709551616) * 4294967296) % 18446744073709551616) ((rd r_ (w64 ((w64 (i + (d.length : Int))) - 1))) % 18446744073709551616)) ((rd d (w64 ((d.length : Int) - 1))) % 18446744073709551616)) % 18446744073709551616)) rfl ?_
 refine w_sl 10 (.int .u64 (Int.tmod (ior .u64 ((((rd r_ (w64 (i + (d.length : Int)))) % 18446744073709551616) * 4294967296) % 18446744073709551616) ((rd r_ (w64 ((w64 (i + (d.length : Int))) - 1))) % 18446744073709551616)) ((rd d (w64 ((d.length : Int) - 1))) % 18446744073709551616))) rfl ?_
 exact hh.l0 (hle.trans (e4.trans e10)) he (h0_r_.mono (e4.trans e10)) (h1_d.mono (e4.trans e10))
/-! ### radome/wide.takeOff -/
noncomputable def wide_takeOff.C : Code := (Tryd.f81.body).getD .skip
def wide_takeOff.out (r : Bool × (List Int)) (H : Hp) (v : Value) : Prop := v = .bool r.1
abbrev wide_takeOff.R (vr_ : Value) (H0 : Hp) (L : Items) (r : Bool × (List Int)) : Value → Hp → Items → Prop := fun v H' L' => (∃ p it', L' = p ++ it' :: L ∧ Sl (Kd.int .u32) H' 93 it' vr_ r.2) ∧ H0.le H' ∧ v = .bool r.1
structure wide_takeOff.Hs where
 l0 : (List Int) → (List Int) → Int → Int → Int → Int → Int → Option (Bool × (List Int))
noncomputable def wide_takeOff.j2 (k : Nat) (h : wide_takeOff.Hs)  (r_ : List Int) (d : List Int) (i : Int) (q : Int) (borrow : Int) (carry : Int) (j_ : Int) (p : Int) : Option (Bool × (List Int)) := if (0 : Int) ≤ w64 (i + j_) ∧ w64 (i + j_) < (r_.length : Int) then (if (0 : Int) ≤ w64 (i + j_) ∧ w64 (i + j_) < (r_.length : Int) then (h.l0 (r_.set (w64 (i + j_) : Int).toNat ((w64 ((w64 ((w64 (rd r_ (w64 (i + j_)))) - (w64 ((p) % 4294967296)))) + borrow)) % 4294967296)) d i q ((w64 ((w64 ((w64 (rd r_ (w64 (i + j_)))) - (w64 ((p) % 4294967296)))) + borrow)) / 4294967296) (p / 4294967296) (w64 (j_ + 1))) else none) else none
noncomputable def wide_takeOff.b0 (k : Nat) (h : wide_takeOff.Hs)  (r_ : List Int) (d : List Int) (i : Int) (q : Int) (borrow : Int) (carry : Int) (j_ : Int) : Option (Bool × (List Int)) := if j_ ≤ (d.length : Int) then (if j_ < (d.length : Int) then (if (0 : Int) ≤ j_ ∧ j_ < (d.length : Int) then (wide_takeOff.j2 k h r_ d i q borrow carry j_ ((carry + ((q * ((rd d j_) % 18446744073709551616)) % 18446744073709551616)) % 18446744073709551616)) else none) else (wide_takeOff.j2 k h r_ d i q borrow carry j_ carry)) else (some (decide (borrow < 0), r_))
noncomputable def wide_takeOff.hs : Nat → wide_takeOff.Hs
 | 0 => ⟨fun _ _ _ _ _ _ _ => none⟩
 | k + 1 => ⟨fun x0 x1 x2 x3 x4 x5 x6 => wide_takeOff.b0 k (wide_takeOff.hs k) x0 x1 x2 x3 x4 x5 x6⟩
noncomputable def wide_takeOff.f (k : Nat) (r_ : List Int) (d : List Int) (i : Int) (q : Int) : Option (Bool × (List Int)) := (fun h : wide_takeOff.Hs => h.l0 r_ d i q 0 0 0) (wide_takeOff.hs k)
structure wide_takeOff.LE (h h' : wide_takeOff.Hs) : Prop where
 l0 : ∀ y0 y1 y2 y3 y4 y5 y6, LeO (h.l0 y0 y1 y2 y3 y4 y5 y6) (h'.l0 y0 y1 y2 y3 y4 y5 y6)
theorem wide_takeOff.j2_mono {k : Nat} {h h' : wide_takeOff.Hs} (hl : wide_takeOff.LE h h') : ∀ y0 y1 y2 y3 y4 y5 y6 y7, LeO (wide_takeOff.j2 k h y0 y1 y2 y3 y4 y5 y6 y7) (wide_takeOff.j2 (k + 1) h' y0 y1 y2 y3 y4 y5 y6 y7) := fun _ _ _ _ _ _ _ _ => (LeO.ite (LeO.ite (hl.l0 _ _ _ _ _ _ _) (LeO.refl _)) (LeO.refl _))
theorem wide_takeOff.b0_mono {k : Nat} {h h' : wide_takeOff.Hs} (hl : wide_takeOff.LE h h') : ∀ y0 y1 y2 y3 y4 y5 y6, LeO (wide_takeOff.b0 k h y0 y1 y2 y3 y4 y5 y6) (wide_takeOff.b0 (k + 1) h' y0 y1 y2 y3 y4 y5 y6) := fun _ _ _ _ _ _ _ => (LeO.ite (LeO.ite (LeO.ite (wide_takeOff.j2_mono (k := k) hl _ _ _ _ _ _ _ _) (LeO.refl _)) (wide_takeOff.j2_mono (k := k) hl _ _ _ _ _ _ _ _)) (LeO.refl _))
theorem wide_takeOff.hs_mono : ∀ k, wide_takeOff.LE (wide_takeOff.hs k) (wide_takeOff.hs (k + 1))
 | 0 => ⟨fun _ _ _ _ _ _ _ => LeO.none _⟩
 | k + 1 => ⟨wide_takeOff.b0_mono (k := k) (wide_takeOff.hs_mono k)⟩
theorem wide_takeOff.mono : ∀ k y0 y1 y2 y3, LeO (wide_takeOff.f k y0 y1 y2 y3) (wide_takeOff.f (k + 1) y0 y1 y2 y3) := fun k _ _ _ _ => have hl := wide_takeOff.hs_mono k; by unfold wide_takeOff.f; exact (hl.l0 _ _ _ _ _ _ _)
noncomputable def wide_takeOff.Kl0 : List Item := .code (lopB (blkB (seqR (seqL (seqR (seqR (seqR wide_takeOff.C))))))) :: .inLoop (lopB (blkB (seqR (seqL (seqR (seqR (seqR wide_takeOff.C))))))) :: .inBlock 0 :: .code (seqR (seqR (seqR (seqR wide_takeOff.C)))) :: []
noncomputable def wide_takeOff.Kj2 : List Item := .code (seqR (seqR (blkB (seqL (seqR (lopB (blkB (seqR (seqL (seqR (seqR (seqR wide_takeOff.C)))))))))))) :: .inBlock 1 :: .code (seqR (seqR (lopB (blkB (seqR (seqL (seqR (seqR (seqR wide_takeOff.C))))))))) :: .inLoop (lopB (blkB (seqR (seqL (seqR (seqR (seqR wide_takeOff.C))))))) :: .inBlock 0 :: .code (seqR (seqR (seqR (seqR wide_takeOff.C)))) :: []
structure wide_takeOff.OK (h : wide_takeOff.Hs) : Prop where
 l0 : ∀ {H0 H : Hp} {L : Items} {r : Bool × (List Int)} {jk_ : Nat → Value} {r_ : List Int} {d : List Int} {i : Int} {q : Int} {borrow : Int} {carry : Int} {j_ : Int} {vr_ : Value} {v_d : Value} {i_r_ : Item'} (_ : H0.le H) (_he : h.l0 r_ d i q borrow carry j_ = some r) (_h_r_ : Sl (Kd.int .u32) H 93 i_r_ vr_ r_) (_h_d : Src (Kd.int .u32) H L v_d d), Wp Tryd.prog 81 60 wide_takeOff.Kl0 (upd (upd (upd (upd (upd (upd (upd (upd jk_ 0 (vr_)) 1 (v_d)) 2 (.int .i64 i)) 3 (.int .u64 q)) 8 (.bool false)) 9 (.int .i64 borrow)) 10 (.int .u64 carry)) 11 (.int .i64 j_)) H (i_r_ :: L) (wide_takeOff.R vr_ H0 L r)
set_option maxRecDepth 100000 in
set_option maxHeartbeats 2000000 in
theorem wide_takeOff.j2_ok {k : Nat} {h : wide_takeOff.Hs} (hh : wide_takeOff.OK h) {H0 H : Hp} {L : Items} {r : Bool × (List Int)} {jk_ : Nat → Value} {r_ : List Int} {d : List Int} {i : Int} {q : Int} {borrow : Int} {carry : Int} {j_ : Int} {p : Int} {vr_ : Value} {v_d : Value} {i_r_ : Item'} (hle : H0.le H) (he : wide_takeOff.j2 k h r_ d i q borrow carry j_ p = some r) (h_r_ : Sl (Kd.int .u32) H 93 i_r_ vr_ r_) (h_d : Src (Kd.int .u32) H L v_d d) : Wp Tryd.prog 81 60 wide_takeOff.Kj2 (upd (upd (upd (upd (upd (upd (upd (upd (upd jk_ 0 (vr_)) 1 (v_d)) 2 (.int .i64 i)) 3 (.int .u64 q)) 8 (.bool false)) 9 (.int .i64 borrow)) 10 (.int .u64 carry)) 11 (.int .i64 j_)) 12 (.int .u64 p)) H (i_r_ :: L) (wide_takeOff.R vr_ H0 L r) := by
 unfold wide_takeOff.j2 at he
 unfold wide_takeOff.Kj2
 refine w_seq ?_
 refine w_region rfl ?_
 refine w_d rfl (d_move (v := .int .u64 p) rfl) ?_
 refine w_d rfl (d_shr (c := p / 4294967296) rfl rfl (by decide) rfl) ?_
 refine w_d rfl (d_assign (v := .int .u64 (p / 4294967296)) rfl) ?_
 refine w_done ?_
 refine w_seq ?_
 refine w_region rfl ?_
 refine w_d rfl (d_move (v := vr_) rfl) ?_
 refine w_d rfl (d_move (v := .int .i64 i) rfl) ?_
 refine w_d rfl (d_move (v := .int .i64 j_) rfl) ?_
 refine w_d rfl (d_add (c := w64 (i + j_)) rfl rfl rfl) ?_
 obtain ⟨c4, he⟩ := rq he
 refine w_d rfl (d_indexS (sz := 1) Tryd.underlying28 sz93 rfl h_r_.shp rfl c4) ?_
 refine w_d rfl (d_ldint ty93 rfl (h_r_.src .here) c4) ?_
 refine w_d rfl (d_conv (c := w64 (rd r_ (w64 (i + j_)))) Tryd.underlying93 Tryd.underlying2 rfl rfl) ?_
 refine w_d rfl (d_move (v := .int .u64 p) rfl) ?_
 refine w_d rfl (d_conv (c := (p) % 4294967296) Tryd.underlying99 Tryd.underlying93 rfl rfl) ?_
 refine w_d rfl (d_conv (c := w64 ((p) % 4294967296)) Tryd.underlying93 Tryd.underlying2 rfl rfl) ?_
 refine w_d rfl (d_sub (c := w64 ((w64 (rd r_ (w64 (i + j_)))) - (w64 ((p) % 4294967296)))) rfl rfl rfl) ?_
 refine w_d rfl (d_move (v := .int .i64 borrow) rfl) ?_
 refine w_d rfl (d_add (c := w64 ((w64 ((w64 (rd r_ (w64 (i + j_)))) - (w64 ((p) % 4294967296)))) + borrow)) rfl rfl rfl) ?_
 refine w_d rfl (d_assign (v := .int .i64 (w64 ((w64 ((w64 (rd r_ (w64 (i + j_)))) - (w64 ((p) % 4294967296)))) + borrow))) rfl) ?_
 refine w_done ?_
 refine w_seq ?_
 refine w_region rfl ?_
 refine w_d rfl (d_move (v := vr_) rfl) ?_
 refine w_d rfl (d_move (v := .int .i64 i) rfl) ?_
 refine w_d rfl (d_move (v := .int .i64 j_) rfl) ?_
 refine w_d rfl (d_add (c := w64 (i + j_)) rfl rfl rfl) ?_
 refine w_d rfl (d_move (v := .int .i64 (w64 ((w64 ((w64 (rd r_ (w64 (i + j_)))) - (w64 ((p) % 4294967296)))) + borrow))) rfl) ?_
 refine w_d rfl (d_conv (c := (w64 ((w64 ((w64 (rd r_ (w64 (i + j_)))) - (w64 ((p) % 4294967296)))) + borrow)) % 4294967296) Tryd.underlying2 Tryd.underlying93 rfl rfl) ?_
 obtain ⟨c5, he⟩ := rq he
 refine w_d rfl (d_indexS (sz := 1) Tryd.underlying28 sz93 rfl h_r_.shp rfl c5) ?_
 refine w_a0 rfl (o_storeEl (kd := (Kd.int .u32)) (v := .int .u32 ((w64 ((w64 ((w64 (rd r_ (w64 (i + j_)))) - (w64 ((p) % 4294967296)))) + borrow)) % 4294967296)) (F := fun z_ => z_ :: L) sz93 rfl rfl rfl rfl h_r_ c5 (fun _ => .here)) ?_
 rintro _ _ _ ⟨i6, rfl, rfl, rfl, h7⟩
 refine w_done ?_
 refine w_region rfl ?_
 refine w_d rfl (d_move (v := .int .i64 (w64 ((w64 ((w64 (rd r_ (w64 (i + j_)))) - (w64 ((p) % 4294967296)))) + borrow))) rfl) ?_
 refine w_d rfl (d_shr (c := (w64 ((w64 ((w64 (rd r_ (w64 (i + j_)))) - (w64 ((p) % 4294967296)))) + borrow)) / 4294967296) rfl rfl (by decide) rfl) ?_
 refine w_d rfl (d_assign (v := .int .i64 ((w64 ((w64 ((w64 (rd r_ (w64 (i + j_)))) - (w64 ((p) % 4294967296)))) + borrow)) / 4294967296)) rfl) ?_
 refine w_done ?_
 refine w_inBlock ?_
 refine w_region rfl ?_
 refine w_d rfl (d_move (v := .int .i64 j_) rfl) ?_
 refine w_d rfl (d_add (c := w64 (j_ + 1)) rfl rfl rfl) ?_
 refine w_d rfl (d_assign (v := .int .i64 (w64 (j_ + 1))) rfl) ?_
 refine w_done ?_
 refine w_inLoop ?_
 refine w_sl 0 (vr_) rfl ?_
 refine w_sl 1 (v_d) rfl ?_
 refine w_sl 2 (.int .i64 i) rfl ?_
 refine w_sl 3 (.int .u64 q) rfl ?_
 refine w_sl 8 (.bool false) rfl ?_
 refine w_sl 9 (.int .i64 ((w64 ((w64 ((w64 (rd r_ (w64 (i + j_)))) - (w64 ((p) % 4294967296)))) + borrow)) / 4294967296)) rfl ?_
 refine w_sl 10 (.int .u64 (p / 4294967296)) rfl ?_
 refine w_sl 11 (.int .i64 (w64 (j_ + 1))) rfl ?_
 exact hh.l0 hle he h7 h_d
set_option maxRecDepth 100000 in
set_option maxHeartbeats 2000000 in
theorem wide_takeOff.b0_ok {k : Nat} {h : wide_takeOff.Hs} (hh : wide_takeOff.OK h) {H0 H : Hp} {L : Items} {r : Bool × (List Int)} {jk_ : Nat → Value} {r_ : List Int} {d : List Int} {i : Int} {q : Int} {borrow : Int} {carry : Int} {j_ : Int} {vr_ : Value} {v_d : Value} {i_r_ : Item'} (hle : H0.le H) (he : wide_takeOff.b0 k h r_ d i q borrow carry j_ = some r) (h_r_ : Sl (Kd.int .u32) H 93 i_r_ vr_ r_) (h_d : Src (Kd.int .u32) H L v_d d) : Wp Tryd.prog 81 60 wide_takeOff.Kl0 (upd (upd (upd (upd (upd (upd (upd (upd jk_ 0 (vr_)) 1 (v_d)) 2 (.int .i64 i)) 3 (.int .u64 q)) 8 (.bool false)) 9 (.int .i64 borrow)) 10 (.int .u64 carry)) 11 (.int .i64 j_)) H (i_r_ :: L) (wide_takeOff.R vr_ H0 L r) := by
 unfold wide_takeOff.b0 at he
 unfold wide_takeOff.Kl0
 refine w_seq ?_
 refine w_seq ?_
 refine w_region rfl ?_
 refine w_d rfl (d_move (v := .int .i64 j_) rfl) ?_
 refine w_d rfl (d_move (v := v_d) rfl) ?_
 refine w_d rfl (d_len Tryd.underlying28 rfl h_d.th) ?_
 refine w_d rfl (d_leq rfl rfl) ?_
 refine w_done ?_
 rcases its he with ⟨c1, he⟩ | ⟨c1, he⟩
 ·
  refine w_then rfl (decide_eq_true c1) ?_
  refine w_skip ?_
  refine w_seq ?_
  refine w_block ?_
  refine w_seq ?_
  refine w_region rfl ?_
  refine w_d rfl (d_move (v := .int .u64 carry) rfl) ?_
  refine w_d rfl (d_assign (v := .int .u64 carry) rfl) ?_
  refine w_done ?_
  refine w_seq ?_
  refine w_seq ?_
  refine w_region rfl ?_
  refine w_d rfl (d_move (v := .int .i64 j_) rfl) ?_
  refine w_d rfl (d_move (v := v_d) rfl) ?_
  refine w_d rfl (d_len Tryd.underlying28 rfl h_d.th) ?_
  refine w_d rfl (d_lss rfl rfl) ?_
  refine w_done ?_
  rcases its he with ⟨c2, he⟩ | ⟨c2, he⟩
  ·
   refine w_then rfl (decide_eq_true c2) ?_
   refine w_region rfl ?_
   refine w_d rfl (d_move (v := .int .u64 carry) rfl) ?_
   refine w_d rfl (d_move (v := .int .u64 q) rfl) ?_
   refine w_d rfl (d_move (v := v_d) rfl) ?_
   refine w_d rfl (d_move (v := .int .i64 j_) rfl) ?_
   obtain ⟨c3, he⟩ := rq he
   refine w_d rfl (d_index (sz := 1) Tryd.underlying28 sz93 rfl h_d.th rfl c3) ?_
   refine w_d rfl (d_ldint ty93 rfl h_d.th c3) ?_
   refine w_d rfl (d_conv (c := (rd d j_) % 18446744073709551616) Tryd.underlying93 Tryd.underlying99 rfl rfl) ?_
   refine w_d rfl (d_mul (c := (q * ((rd d j_) % 18446744073709551616)) % 18446744073709551616) rfl rfl rfl) ?_
   refine w_d rfl (d_add (c := (carry + ((q * ((rd d j_) % 18446744073709551616)) % 18446744073709551616)) % 18446744073709551616) rfl rfl rfl) ?_
   refine w_d rfl (d_assign (v := .int .u64 ((carry + ((q * ((rd d j_) % 18446744073709551616)) % 18446744073709551616)) % 18446744073709551616)) rfl) ?_
   refine w_done ?_
   refine w_sl 0 (vr_) rfl ?_
   refine w_sl 1 (v_d) rfl ?_
   refine w_sl 2 (.int .i64 i) rfl ?_
   refine w_sl 3 (.int .u64 q) rfl ?_
   refine w_sl 8 (.bool false) rfl ?_
   refine w_sl 9 (.int .i64 borrow) rfl ?_
   refine w_sl 10 (.int .u64 carry) rfl ?_
   refine w_sl 11 (.int .i64 j_) rfl ?_
   refine w_sl 12 (.int .u64 ((carry + ((q * ((rd d j_) % 18446744073709551616)) % 18446744073709551616)) % 18446744073709551616)) rfl ?_
   exact wide_takeOff.j2_ok (k := k) hh hle he h_r_ h_d
  ·
   refine w_else rfl (decide_eq_false c2) ?_
   refine w_skip ?_
   refine w_sl 0 (vr_) rfl ?_
   refine w_sl 1 (v_d) rfl ?_
   refine w_sl 2 (.int .i64 i) rfl ?_
   refine w_sl 3 (.int .u64 q) rfl ?_
   refine w_sl 8 (.bool false) rfl ?_
   refine w_sl 9 (.int .i64 borrow) rfl ?_
   refine w_sl 10 (.int .u64 carry) rfl ?_
   refine w_sl 11 (.int .i64 j_) rfl ?_
   refine w_sl 12 (.int .u64 carry) rfl ?_
   exact wide_takeOff.j2_ok (k := k) hh hle he h_r_ h_d
 ·
  refine w_else rfl (decide_eq_false c1) ?_
  refine w_exit rfl ?_
  refine w_seq ?_
  refine w_region rfl ?_
  refine w_d rfl (d_move (v := .int .i64 borrow) rfl) ?_
  refine w_d rfl (d_lss rfl rfl) ?_
  refine w_d rfl (d_assign (v := .bool (decide (borrow < 0))) rfl) ?_
  refine w_done ?_
  obtain rfl := Option.some.inj he
  refine w_return fn_81 rs_81 (.tmp (v := .bool (decide (borrow < 0))) rfl .nil) ?_
  exact ⟨⟨[], _, rfl, h_r_⟩, hle, rfl⟩
theorem wide_takeOff.ok : ∀ k, wide_takeOff.OK (wide_takeOff.hs k)
 | 0 => ⟨(by intros; exact nomatch (show none = some _ from by assumption))⟩
 | k + 1 => ⟨wide_takeOff.b0_ok (k := k) (wide_takeOff.ok k)⟩
set_option maxRecDepth 100000 in
set_option maxHeartbeats 2000000 in
theorem wide_takeOff.calls (k : Nat) {H : Hp} {L : Items} {r_ : List Int} {d : List Int} {i : Int} {q : Int} {vr_ : Value} {it_ : Item'} {v0_d : Value} {r : Bool × (List Int)} (he : wide_takeOff.f k r_ d i q = some r) (hr_ : Sl (Kd.int .u32) H 93 it_ vr_ r_) (h0_d : Src (Kd.int .u32) H L v0_d d) : Ct Tryd.prog 81 ⟨[vr_, v0_d, .int .i64 i, .int .u64 q]⟩ H (it_ :: L) (fun v H' L' => ∃ it', L' = it' :: L ∧ H.le H' ∧ Sl (Kd.int .u32) H' 93 it' vr_ r.2 ∧ v = .bool r.1) := by
 refine ct_mut (Q := fun v => v = .bool r.1) ?_
 have hle : H.le H := .refl _
 have hh := wide_takeOff.ok k
 unfold wide_takeOff.f at he
 refine ct_enter (args := [vr_, v0_d, .int .i64 i, .int .u64 q]) fn_81 rfl nt_81 rfl ?_
 refine w_seq ?_
 refine w_region rfl ?_
 refine w_d rfl (d_assign (v := .bool false) rfl) ?_
 refine w_done ?_
 refine w_seq ?_
 refine w_region rfl ?_
 refine w_d rfl (d_assign (v := .int .i64 0) rfl) ?_
 refine w_done ?_
 refine w_seq ?_
 refine w_region rfl ?_
 refine w_d rfl (d_assign (v := .int .u64 0) rfl) ?_
 refine w_done ?_
 refine w_seq ?_
 refine w_seq ?_
 refine w_region rfl ?_
 refine w_d rfl (d_assign (v := .int .i64 0) rfl) ?_
 refine w_done ?_
 refine w_block ?_
 refine w_loop ?_
 refine w_sl 0 (vr_) rfl ?_
 refine w_sl 1 (v0_d) rfl ?_
 refine w_sl 2 (.int .i64 i) rfl ?_
 refine w_sl 3 (.int .u64 q) rfl ?_
 refine w_sl 8 (.bool false) rfl ?_
 refine w_sl 9 (.int .i64 0) rfl ?_
 refine w_sl 10 (.int .u64 0) rfl ?_
 refine w_sl 11 (.int .i64 0) rfl ?_
 exact hh.l0 hle he hr_ h0_d
/-! ### radome/wide.giveBack -/
noncomputable def wide_giveBack.C : Code := (Tryd.f82.body).getD .skip
def wide_giveBack.out (r : (List Int)) (H : Hp) (v : Value) : Prop := v = .tuple ⟨[]⟩
abbrev wide_giveBack.R (vr_ : Value) (H0 : Hp) (L : Items) (r : (List Int)) : Value → Hp → Items → Prop := fun v H' L' => (∃ p it', L' = p ++ it' :: L ∧ Sl (Kd.int .u32) H' 93 it' vr_ r) ∧ H0.le H' ∧ v = .tuple ⟨[]⟩
structure wide_giveBack.Hs where
 l0 : (List Int) → (List Int) → Int → Int → Int → Option (List Int)
noncomputable def wide_giveBack.j2 (k : Nat) (h : wide_giveBack.Hs)  (r_ : List Int) (d : List Int) (i : Int) (carry : Int) (j_ : Int) (s : Int) : Option (List Int) := if (0 : Int) ≤ w64 (i + j_) ∧ w64 (i + j_) < (r_.length : Int) then (h.l0 (r_.set (w64 (i + j_) : Int).toNat ((s) % 4294967296)) d i (s / 4294967296) (w64 (j_ + 1))) else none
noncomputable def wide_giveBack.b0 (k : Nat) (h : wide_giveBack.Hs)  (r_ : List Int) (d : List Int) (i : Int) (carry : Int) (j_ : Int) : Option (List Int) := if j_ ≤ (d.length : Int) then (if (0 : Int) ≤ w64 (i + j_) ∧ w64 (i + j_) < (r_.length : Int) then (if j_ < (d.length : Int) then (if (0 : Int) ≤ j_ ∧ j_ < (d.length : Int) then (wide_giveBack.j2 k h r_ d i carry j_ ((((((rd r_ (w64 (i + j_))) % 18446744073709551616) + carry) % 18446744073709551616) + ((rd d j_) % 18446744073709551616)) % 18446744073709551616)) else none) else (wide_giveBack.j2 k h r_ d i carry j_ ((((rd r_ (w64 (i + j_))) % 18446744073709551616) + carry) % 18446744073709551616))) else none) else (some (r_))
noncomputable def wide_giveBack.hs : Nat → wide_giveBack.Hs
 | 0 => ⟨fun _ _ _ _ _ => none⟩
 | k + 1 => ⟨fun x0 x1 x2 x3 x4 => wide_giveBack.b0 k (wide_giveBack.hs k) x0 x1 x2 x3 x4⟩
noncomputable def wide_giveBack.f (k : Nat) (r_ : List Int) (d : List Int) (i : Int) : Option (List Int) := (fun h : wide_giveBack.Hs => h.l0 r_ d i 0 0) (wide_giveBack.hs k)
structure wide_giveBack.LE (h h' : wide_giveBack.Hs) : Prop where
 l0 : ∀ y0 y1 y2 y3 y4, LeO (h.l0 y0 y1 y2 y3 y4) (h'.l0 y0 y1 y2 y3 y4)
theorem wide_giveBack.j2_mono {k : Nat} {h h' : wide_giveBack.Hs} (hl : wide_giveBack.LE h h') : ∀ y0 y1 y2 y3 y4 y5, LeO (wide_giveBack.j2 k h y0 y1 y2 y3 y4 y5) (wide_giveBack.j2 (k + 1) h' y0 y1 y2 y3 y4 y5) := fun _ _ _ _ _ _ => (LeO.ite (hl.l0 _ _ _ _ _) (LeO.refl _))
theorem wide_giveBack.b0_mono {k : Nat} {h h' : wide_giveBack.Hs} (hl : wide_giveBack.LE h h') : ∀ y0 y1 y2 y3 y4, LeO (wide_giveBack.b0 k h y0 y1 y2 y3 y4) (wide_giveBack.b0 (k + 1) h' y0 y1 y2 y3 y4) := fun _ _ _ _ _ => (LeO.ite (LeO.ite (LeO.ite (LeO.ite (wide_giveBack.j2_mono (k := k) hl _ _ _ _ _ _) (LeO.refl _)) (wide_giveBack.j2_mono (k := k) hl _ _ _ _ _ _)) (LeO.refl _)) (LeO.refl _))
theorem wide_giveBack.hs_mono : ∀ k, wide_giveBack.LE (wide_giveBack.hs k) (wide_giveBack.hs (k + 1))
 | 0 => ⟨fun _ _ _ _ _ => LeO.none _⟩
 | k + 1 => ⟨wide_giveBack.b0_mono (k := k) (wide_giveBack.hs_mono k)⟩
theorem wide_giveBack.mono : ∀ k y0 y1 y2, LeO (wide_giveBack.f k y0 y1 y2) (wide_giveBack.f (k + 1) y0 y1 y2) := fun k _ _ _ => have hl := wide_giveBack.hs_mono k; by unfold wide_giveBack.f; exact (hl.l0 _ _ _ _ _)
noncomputable def wide_giveBack.Kl0 : List Item := .code (lopB (blkB (seqR (seqR wide_giveBack.C)))) :: .inLoop (lopB (blkB (seqR (seqR wide_giveBack.C)))) :: .inBlock 0 :: []
noncomputable def wide_giveBack.Kj2 : List Item := .code (seqR (seqR (blkB (seqL (seqR (lopB (blkB (seqR (seqR wide_giveBack.C))))))))) :: .inBlock 1 :: .code (seqR (seqR (lopB (blkB (seqR (seqR wide_giveBack.C)))))) :: .inLoop (lopB (blkB (seqR (seqR wide_giveBack.C)))) :: .inBlock 0 :: []
structure wide_giveBack.OK (h : wide_giveBack.Hs) : Prop where
 l0 : ∀ {H0 H : Hp} {L : Items} {r : (List Int)} {jk_ : Nat → Value} {r_ : List Int} {d : List Int} {i : Int} {carry : Int} {j_ : Int} {vr_ : Value} {v_d : Value} {i_r_ : Item'} (_ : H0.le H) (_he : h.l0 r_ d i carry j_ = some r) (_h_r_ : Sl (Kd.int .u32) H 93 i_r_ vr_ r_) (_h_d : Src (Kd.int .u32) H L v_d d), Wp Tryd.prog 82 44 wide_giveBack.Kl0 (upd (upd (upd (upd (upd jk_ 0 (vr_)) 1 (v_d)) 2 (.int .i64 i)) 6 (.int .u64 carry)) 7 (.int .i64 j_)) H (i_r_ :: L) (wide_giveBack.R vr_ H0 L r)
set_option maxRecDepth 100000 in
set_option maxHeartbeats 2000000 in
theorem wide_giveBack.j2_ok {k : Nat} {h : wide_giveBack.Hs} (hh : wide_giveBack.OK h) {H0 H : Hp} {L : Items} {r : (List Int)} {jk_ : Nat → Value} {r_ : List Int} {d : List Int} {i : Int} {carry : Int} {j_ : Int} {s : Int} {vr_ : Value} {v_d : Value} {i_r_ : Item'} (hle : H0.le H) (he : wide_giveBack.j2 k h r_ d i carry j_ s = some r) (h_r_ : Sl (Kd.int .u32) H 93 i_r_ vr_ r_) (h_d : Src (Kd.int .u32) H L v_d d) : Wp Tryd.prog 82 44 wide_giveBack.Kj2 (upd (upd (upd (upd (upd (upd jk_ 0 (vr_)) 1 (v_d)) 2 (.int .i64 i)) 6 (.int .u64 carry)) 7 (.int .i64 j_)) 8 (.int .u64 s)) H (i_r_ :: L) (wide_giveBack.R vr_ H0 L r) := by
 unfold wide_giveBack.j2 at he
 unfold wide_giveBack.Kj2
 refine w_seq ?_
 refine w_region rfl ?_
 refine w_d rfl (d_move (v := vr_) rfl) ?_
 refine w_d rfl (d_move (v := .int .i64 i) rfl) ?_
 refine w_d rfl (d_move (v := .int .i64 j_) rfl) ?_
 refine w_d rfl (d_add (c := w64 (i + j_)) rfl rfl rfl) ?_
 refine w_d rfl (d_move (v := .int .u64 s) rfl) ?_
 refine w_d rfl (d_conv (c := (s) % 4294967296) Tryd.underlying99 Tryd.underlying93 rfl rfl) ?_
 obtain ⟨c5, he⟩ := rq he
 refine w_d rfl (d_indexS (sz := 1) Tryd.underlying28 sz93 rfl h_r_.shp rfl c5) ?_
 refine w_a0 rfl (o_storeEl (kd := (Kd.int .u32)) (v := .int .u32 ((s) % 4294967296)) (F := fun z_ => z_ :: L) sz93 rfl rfl rfl rfl h_r_ c5 (fun _ => .here)) ?_
 rintro _ _ _ ⟨i6, rfl, rfl, rfl, h7⟩
 refine w_done ?_
 refine w_region rfl ?_
 refine w_d rfl (d_move (v := .int .u64 s) rfl) ?_
 refine w_d rfl (d_shr (c := s / 4294967296) rfl rfl (by decide) rfl) ?_
 refine w_d rfl (d_assign (v := .int .u64 (s / 4294967296)) rfl) ?_
 refine w_done ?_
 refine w_inBlock ?_
 refine w_region rfl ?_
 refine w_d rfl (d_move (v := .int .i64 j_) rfl) ?_
 refine w_d rfl (d_add (c := w64 (j_ + 1)) rfl rfl rfl) ?_
 refine w_d rfl (d_assign (v := .int .i64 (w64 (j_ + 1))) rfl) ?_
 refine w_done ?_
 refine w_inLoop ?_
 refine w_sl 0 (vr_) rfl ?_
 refine w_sl 1 (v_d) rfl ?_
 refine w_sl 2 (.int .i64 i) rfl ?_
 refine w_sl 6 (.int .u64 (s / 4294967296)) rfl ?_
 refine w_sl 7 (.int .i64 (w64 (j_ + 1))) rfl ?_
 exact hh.l0 hle he h7 h_d
set_option maxRecDepth 100000 in
set_option maxHeartbeats 2000000 in
theorem wide_giveBack.b0_ok {k : Nat} {h : wide_giveBack.Hs} (hh : wide_giveBack.OK h) {H0 H : Hp} {L : Items} {r : (List Int)} {jk_ : Nat → Value} {r_ : List Int} {d : List Int} {i : Int} {carry : Int} {j_ : Int} {vr_ : Value} {v_d : Value} {i_r_ : Item'} (hle : H0.le H) (he : wide_giveBack.b0 k h r_ d i carry j_ = some r) (h_r_ : Sl (Kd.int .u32) H 93 i_r_ vr_ r_) (h_d : Src (Kd.int .u32) H L v_d d) : Wp Tryd.prog 82 44 wide_giveBack.Kl0 (upd (upd (upd (upd (upd jk_ 0 (vr_)) 1 (v_d)) 2 (.int .i64 i)) 6 (.int .u64 carry)) 7 (.int .i64 j_)) H (i_r_ :: L) (wide_giveBack.R vr_ H0 L r) := by
 unfold wide_giveBack.b0 at he
 unfold wide_giveBack.Kl0
 refine w_seq ?_
 refine w_seq ?_
 refine w_region rfl ?_
 refine w_d rfl (d_move (v := .int .i64 j_) rfl) ?_
 refine w_d rfl (d_move (v := v_d) rfl) ?_
 refine w_d rfl (d_len Tryd.underlying28 rfl h_d.th) ?_
 refine w_d rfl (d_leq rfl rfl) ?_
 refine w_done ?_
 rcases its he with ⟨c1, he⟩ | ⟨c1, he⟩
 ·
  refine w_then rfl (decide_eq_true c1) ?_
  refine w_skip ?_
  refine w_seq ?_
  refine w_block ?_
  refine w_seq ?_
  refine w_region rfl ?_
  refine w_d rfl (d_move (v := vr_) rfl) ?_
  refine w_d rfl (d_move (v := .int .i64 i) rfl) ?_
  refine w_d rfl (d_move (v := .int .i64 j_) rfl) ?_
  refine w_d rfl (d_add (c := w64 (i + j_)) rfl rfl rfl) ?_
  obtain ⟨c2, he⟩ := rq he
  refine w_d rfl (d_indexS (sz := 1) Tryd.underlying28 sz93 rfl h_r_.shp rfl c2) ?_
  refine w_d rfl (d_ldint ty93 rfl (h_r_.src .here) c2) ?_
  refine w_d rfl (d_conv (c := (rd r_ (w64 (i + j_))) % 18446744073709551616) Tryd.underlying93 Tryd.underlying99 rfl rfl) ?_
  refine w_d rfl (d_move (v := .int .u64 carry) rfl) ?_
  refine w_d rfl (d_add (c := (((rd r_ (w64 (i + j_))) % 18446744073709551616) + carry) % 18446744073709551616) rfl rfl rfl) ?_
  refine w_d rfl (d_assign (v := .int .u64 ((((rd r_ (w64 (i + j_))) % 18446744073709551616) + carry) % 18446744073709551616)) rfl) ?_
  refine w_done ?_
  refine w_seq ?_
  refine w_seq ?_
  refine w_region rfl ?_
  refine w_d rfl (d_move (v := .int .i64 j_) rfl) ?_
  refine w_d rfl (d_move (v := v_d) rfl) ?_
  refine w_d rfl (d_len Tryd.underlying28 rfl h_d.th) ?_
  refine w_d rfl (d_lss rfl rfl) ?_
  refine w_done ?_
  rcases its he with ⟨c3, he⟩ | ⟨c3, he⟩
  ·
   refine w_then rfl (decide_eq_true c3) ?_
   refine w_region rfl ?_
   refine w_d rfl (d_move (v := .int .u64 ((((rd r_ (w64 (i + j_))) % 18446744073709551616) + carry) % 18446744073709551616)) rfl) ?_
   refine w_d rfl (d_move (v := v_d) rfl) ?_
   refine w_d rfl (d_move (v := .int .i64 j_) rfl) ?_
   obtain ⟨c4, he⟩ := rq he
   refine w_d rfl (d_index (sz := 1) Tryd.underlying28 sz93 rfl h_d.th rfl c4) ?_
   refine w_d rfl (d_ldint ty93 rfl h_d.th c4) ?_
   refine w_d rfl (d_conv (c := (rd d j_) % 18446744073709551616) Tryd.underlying93 Tryd.underlying99 rfl rfl) ?_
   refine w_d rfl (d_add (c := (((((rd r_ (w64 (i + j_))) % 18446744073709551616) + carry) % 18446744073709551616) + ((rd d j_) % 18446744073709551616)) % 18446744073709551616) rfl rfl rfl) ?_
   refine w_d rfl (d_assign (v := .int .u64 ((((((rd r_ (w64 (i + j_))) % 18446744073709551616) + carry) % 18446744073709551616) + ((rd d j_) % 18446744073709551616)) % 18446744073709551616)) rfl) ?_
   refine w_done ?_
   refine w_sl 0 (vr_) rfl ?_
   refine w_sl 1 (v_d) rfl ?_
   refine w_sl 2 (.int .i64 i) rfl ?_
   refine w_sl 6 (.int .u64 carry) rfl ?_
   refine w_sl 7 (.int .i64 j_) rfl ?_
   refine w_sl 8 (.int .u64 ((((((rd r_ (w64 (i + j_))) % 18446744073709551616) + carry) % 18446744073709551616) + ((rd d j_) % 18446744073709551616)) % 18446744073709551616)) rfl ?_
   exact wide_giveBack.j2_ok (k := k) hh hle he h_r_ h_d
  ·
   refine w_else rfl (decide_eq_false c3) ?_
   refine w_skip ?_
   refine w_sl 0 (vr_) rfl ?_
   refine w_sl 1 (v_d) rfl ?_
   refine w_sl 2 (.int .i64 i) rfl ?_
   refine w_sl 6 (.int .u64 carry) rfl ?_
   refine w_sl 7 (.int .i64 j_) rfl ?_
   refine w_sl 8 (.int .u64 ((((rd r_ (w64 (i + j_))) % 18446744073709551616) + carry) % 18446744073709551616)) rfl ?_
   exact wide_giveBack.j2_ok (k := k) hh hle he h_r_ h_d
 ·
  refine w_else rfl (decide_eq_false c1) ?_
  refine w_exit rfl ?_
  obtain rfl := Option.some.inj he
  refine w_finish fn_82 rs_82 .nil ?_
  exact ⟨⟨[], _, rfl, h_r_⟩, hle, rfl⟩
theorem wide_giveBack.ok : ∀ k, wide_giveBack.OK (wide_giveBack.hs k)
 | 0 => ⟨(by intros; exact nomatch (show none = some _ from by assumption))⟩
 | k + 1 => ⟨wide_giveBack.b0_ok (k := k) (wide_giveBack.ok k)⟩
set_option maxRecDepth 100000 in
set_option maxHeartbeats 2000000 in
theorem wide_giveBack.calls (k : Nat) {H : Hp} {L : Items} {r_ : List Int} {d : List Int} {i : Int} {vr_ : Value} {it_ : Item'} {v0_d : Value} {r : (List Int)} (he : wide_giveBack.f k r_ d i = some r) (hr_ : Sl (Kd.int .u32) H 93 it_ vr_ r_) (h0_d : Src (Kd.int .u32) H L v0_d d) : Ct Tryd.prog 82 ⟨[vr_, v0_d, .int .i64 i]⟩ H (it_ :: L) (fun v H' L' => ∃ it', L' = it' :: L ∧ H.le H' ∧ Sl (Kd.int .u32) H' 93 it' vr_ r ∧ v = .tuple ⟨[]⟩) := by
 refine ct_mut (Q := fun v => v = .tuple ⟨[]⟩) ?_
 have hle : H.le H := .refl _
 have hh := wide_giveBack.ok k
 unfold wide_giveBack.f at he
 refine ct_enter (args := [vr_, v0_d, .int .i64 i]) fn_82 rfl nt_82 rfl ?_
 refine w_seq ?_
 refine w_region rfl ?_
 refine w_d rfl (d_assign (v := .int .u64 0) rfl) ?_
 refine w_done ?_
 refine w_seq ?_
 refine w_region rfl ?_
 refine w_d rfl (d_assign (v := .int .i64 0) rfl) ?_
 refine w_done ?_
 refine w_block ?_
 refine w_loop ?_
 refine w_sl 0 (vr_) rfl ?_
 refine w_sl 1 (v0_d) rfl ?_
 refine w_sl 2 (.int .i64 i) rfl ?_
 refine w_sl 6 (.int .u64 0) rfl ?_
 refine w_sl 7 (.int .i64 0) rfl ?_
 exact hh.l0 hle he hr_ h0_d
/-! ### slices.Clone[[]uint32,uint32] -/
noncomputable def slices_Clone_uint32_uint32.C : Code := (Tryd.f58.body).getD .skip
abbrev slices_Clone_uint32_uint32.out (r : (List Int)) (H : Hp) (v : Value) : Prop := Ro (Kd.int .u32) H v r
abbrev slices_Clone_uint32_uint32.R (H0 : Hp) (L : Items) (r : (List Int)) : Value → Hp → Items → Prop := fun v H' L' => (∃ p it, L' = p ++ it :: L ∧ Sl (Kd.int .u32) H' 93 it v r) ∧ H0.le H'
noncomputable def slices_Clone_uint32_uint32.f (k : Nat) (s : List Int) : Option (List Int) := if 0 + s.length ≤ 35184372088704 then (some (s)) else none
theorem slices_Clone_uint32_uint32.mono : ∀ k y0, LeO (slices_Clone_uint32_uint32.f k y0) (slices_Clone_uint32_uint32.f (k + 1) y0) := fun k _ => by unfold slices_Clone_uint32_uint32.f; exact (LeO.ite (LeO.refl _) (LeO.refl _))
set_option maxRecDepth 100000 in
set_option maxHeartbeats 2000000 in
theorem slices_Clone_uint32_uint32.calls (k : Nat) {H : Hp} {L : Items} {s : List Int} {v0_s : Value} {r : (List Int)} (he : slices_Clone_uint32_uint32.f k s = some r) (h0_s : Ro (Kd.int .u32) H v0_s s) : Ct Tryd.prog 58 ⟨[v0_s]⟩ H L (fun v H' L' => ∃ it, L' = it :: L ∧ H.le H' ∧ Sl (Kd.int .u32) H' 93 it v r) := by
 refine ct_own ?_
 have hle : H.le H := .refl _
 unfold slices_Clone_uint32_uint32.f at he
 obtain ⟨A_, n_, rfl, hc_, h1_⟩ := h0_s
 cases A_ with
 | none =>
  have e_ : s = [] := h1_.elim id fun h => (by obtain ⟨_, _, h, _⟩ := h; cases h)
  subst e_
  obtain ⟨_, he⟩ := rq he
  refine ct_enter (args := [.slice none 0 n_]) fn_58 rfl nt_58 rfl ?_
  refine w_seq ?_
  refine w_region rfl ?_
  refine w_d rfl (d_assign (v := .slice none 0 0) rfl) ?_
  refine w_done ?_
  refine w_seq ?_
  refine w_seq ?_
  refine w_region rfl ?_
  refine w_d rfl (d_move (v := .slice none 0 n_) rfl) ?_
  refine w_d rfl (d_eqnil_n Tryd.underlying28 rfl) ?_
  refine w_done ?_
  refine w_then rfl rfl ?_
  refine w_seq ?_
  refine w_region rfl ?_
  refine w_d rfl (d_assign (v := .slice none 0 0) rfl) ?_
  refine w_done ?_
  refine w_none ?_
  obtain rfl := Option.some.inj he
  refine w_return fn_58 rs_58 (.tmp (v := .slice none 0 0) rfl .nil) ?_
  exact ⟨⟨[], _, rfl, (sl_nil _ _ _)⟩, hle⟩
 | some a_ =>
  have h0_s : Ro (Kd.int .u32) H (.slice (some a_) s.length n_) s := ⟨some a_, n_, rfl, hc_, h1_⟩
  refine ct_enter (args := [.slice (some a_) s.length n_]) fn_58 rfl nt_58 rfl ?_
  refine w_seq ?_
  refine w_region rfl ?_
  refine w_d rfl (d_assign (v := .slice none 0 0) rfl) ?_
  refine w_done ?_
  refine w_seq ?_
  refine w_seq ?_
  refine w_region rfl ?_
  refine w_d rfl (d_move (v := .slice (some a_) s.length n_) rfl) ?_
  refine w_d rfl (d_eqnil_sl Tryd.underlying28 rfl rfl) ?_
  refine w_done ?_
  refine w_else rfl rfl ?_
  refine w_skip ?_
  refine w_seq ?_
  refine w_region rfl ?_
  refine w_a rfl (o_buildSlice' (kd := (Kd.int .u32)) (css := []) (xs := []) (parts := []) Tryd.underlying28 ti93 rfl rfl trivial rfl (by decide)) ?_
  rintro v1 _ _ ⟨i2, rfl, rfl, h3⟩
  refine w_d rfl (d_move (v := .slice (some a_) s.length n_) rfl) ?_
  obtain ⟨c4, he⟩ := rq he
  refine w_a rfl (o_append' (kd := (Kd.int .u32)) (F := fun z_ => z_ :: L) Tryd.underlying28 Tryd.underlying28 ti93 rfl (by first | omega | (simp only [List.nil_append, List.length_cons, List.length_nil]; omega)) rfl rfl h3 h0_s.src (fun _ => .here)) ?_
  rintro v5 _ _ ⟨i6, rfl, rfl, h7⟩
  refine w_d rfl (d_assign (v := v5) rfl) ?_
  refine w_done ?_
  obtain rfl := Option.some.inj he
  refine w_return fn_58 rs_58 (.tmp (v := v5) rfl .nil) ?_
  exact ⟨⟨[], _, rfl, h7⟩, hle⟩
theorem slices_Clone_uint32_uint32.callsR (k : Nat) {H : Hp} {L : Items} {s : List Int} {v0_s : Value} {r : (List Int)} (he : slices_Clone_uint32_uint32.f k s = some r) (h0_s : Ro (Kd.int .u32) H v0_s s) : Ct Tryd.prog 58 ⟨[v0_s]⟩ H L (fun v H' L' => L = L' ∧ H.le H' ∧ slices_Clone_uint32_uint32.out r H' v) := ct_ro (slices_Clone_uint32_uint32.calls k he h0_s)
/-! ### radome/wide.down -/
noncomputable def wide_down.C : Code := (Tryd.f63.body).getD .skip
abbrev wide_down.out (r : (List Int)) (H : Hp) (v : Value) : Prop := Ro (Kd.int .u32) H v r
abbrev wide_down.R (H0 : Hp) (L : Items) (r : (List Int)) : Value → Hp → Items → Prop := fun v H' L' => (∃ p, L' = p ++ L) ∧ H0.le H' ∧ wide_down.out r H' v
structure wide_down.Hs where
 l0 : Int → (List Int) → Int → Int → Option (List Int)
noncomputable def wide_down.j2 (k : Nat) (h : wide_down.Hs)  (n : Int) (out : List Int) (i : Int) (v_ : Int) (t11 : Int) (t12 : Int) : Option (List Int) := if 0 ≤ n then (if (0 : Int) ≤ i ∧ i < (out.length : Int) then (h.l0 n (out.set (i : Int).toNat ((v_ / 2 ^ shn .u64 n) % 4294967296)) t11 (w64 (t12 + 1))) else none) else none
noncomputable def wide_down.b0 (k : Nat) (h : wide_down.Hs)  (n : Int) (out : List Int) (t11 : Int) (t12 : Int) : Option (List Int) := if t12 < t11 then (if (0 : Int) ≤ t12 ∧ t12 < (out.length : Int) then (if (w64 (t12 + 1)) < (out.length : Int) then (if (0 : Int) ≤ w64 (t12 + 1) ∧ w64 (t12 + 1) < (out.length : Int) then (wide_down.j2 k h n out t12 (ior .u64 ((rd out t12) % 18446744073709551616) ((((rd out (w64 (t12 + 1))) % 18446744073709551616) * 4294967296) % 18446744073709551616)) t11 t12) else none) else (wide_down.j2 k h n out t12 ((rd out t12) % 18446744073709551616) t11 t12)) else none) else ((wide_trim.f k out).bind fun y17 => some (y17))
noncomputable def wide_down.hs : Nat → wide_down.Hs
 | 0 => ⟨fun _ _ _ _ => none⟩
 | k + 1 => ⟨fun x0 x1 x2 x3 => wide_down.b0 k (wide_down.hs k) x0 x1 x2 x3⟩
noncomputable def wide_down.f (k : Nat) (w : List Int) (n : Int) : Option (List Int) := (fun h : wide_down.Hs => (slices_Clone_uint32_uint32.f k w).bind fun y1 => h.l0 n y1 (y1.length : Int) 0) (wide_down.hs k)
structure wide_down.LE (h h' : wide_down.Hs) : Prop where
 l0 : ∀ y0 y1 y2 y3, LeO (h.l0 y0 y1 y2 y3) (h'.l0 y0 y1 y2 y3)
theorem wide_down.j2_mono {k : Nat} {h h' : wide_down.Hs} (hl : wide_down.LE h h') : ∀ y0 y1 y2 y3 y4 y5, LeO (wide_down.j2 k h y0 y1 y2 y3 y4 y5) (wide_down.j2 (k + 1) h' y0 y1 y2 y3 y4 y5) := fun _ _ _ _ _ _ => (LeO.ite (LeO.ite (hl.l0 _ _ _ _) (LeO.refl _)) (LeO.refl _))
theorem wide_down.b0_mono {k : Nat} {h h' : wide_down.Hs} (hl : wide_down.LE h h') : ∀ y0 y1 y2 y3, LeO (wide_down.b0 k h y0 y1 y2 y3) (wide_down.b0 (k + 1) h' y0 y1 y2 y3) := fun _ _ _ _ => (LeO.ite (LeO.ite (LeO.ite (LeO.ite (wide_down.j2_mono (k := k) hl _ _ _ _ _ _) (LeO.refl _)) (wide_down.j2_mono (k := k) hl _ _ _ _ _ _)) (LeO.refl _)) (LeO.bind (wide_trim.mono k _) fun _ => LeO.refl _))
theorem wide_down.hs_mono : ∀ k, wide_down.LE (wide_down.hs k) (wide_down.hs (k + 1))
 | 0 => ⟨fun _ _ _ _ => LeO.none _⟩
 | k + 1 => ⟨wide_down.b0_mono (k := k) (wide_down.hs_mono k)⟩
theorem wide_down.mono : ∀ k y0 y1, LeO (wide_down.f k y0 y1) (wide_down.f (k + 1) y0 y1) := fun k _ _ => have hl := wide_down.hs_mono k; by unfold wide_down.f; exact (LeO.bind (slices_Clone_uint32_uint32.mono k _) fun _ => hl.l0 _ _ _ _)
noncomputable def wide_down.Kl0 : List Item := .code (lopB (blkB (seqR (seqL (seqR (seqR wide_down.C)))))) :: .inLoop (lopB (blkB (seqR (seqL (seqR (seqR wide_down.C)))))) :: .inBlock 0 :: .code (seqR (seqR (seqR wide_down.C))) :: []
noncomputable def wide_down.Kj2 : List Item := .code (seqR (seqR (seqR (blkB (seqL (seqR (seqR (lopB (blkB (seqR (seqL (seqR (seqR wide_down.C))))))))))))) :: .inBlock 1 :: .code (seqR (seqR (seqR (lopB (blkB (seqR (seqL (seqR (seqR wide_down.C))))))))) :: .inLoop (lopB (blkB (seqR (seqL (seqR (seqR wide_down.C)))))) :: .inBlock 0 :: .code (seqR (seqR (seqR wide_down.C))) :: []
structure wide_down.OK (h : wide_down.Hs) : Prop where
 l0 : ∀ {H0 H : Hp} {L : Items} {r : (List Int)} {jk_ : Nat → Value} {n : Int} {out : List Int} {t11 : Int} {t12 : Int} {v_out : Value} {i_out : Item'} (_ : H0.le H) (_he : h.l0 n out t11 t12 = some r) (_h_out : Sl (Kd.int .u32) H 93 i_out v_out out), Wp Tryd.prog 63 44 wide_down.Kl0 (upd (upd (upd (upd (upd jk_ 1 (.int .i64 n)) 4 (.slice none 0 0)) 5 (v_out)) 11 (.int .i64 t11)) 12 (.int .i64 t12)) H (i_out :: L) (wide_down.R H0 L r)
set_option maxRecDepth 100000 in
set_option maxHeartbeats 2000000 in
theorem wide_down.j2_ok {k : Nat} {h : wide_down.Hs} (hh : wide_down.OK h) {H0 H : Hp} {L : Items} {r : (List Int)} {jk_ : Nat → Value} {n : Int} {out : List Int} {i : Int} {v_ : Int} {t11 : Int} {t12 : Int} {v_out : Value} {i_out : Item'} (hle : H0.le H) (he : wide_down.j2 k h n out i v_ t11 t12 = some r) (h_out : Sl (Kd.int .u32) H 93 i_out v_out out) : Wp Tryd.prog 63 44 wide_down.Kj2 (upd (upd (upd (upd (upd (upd (upd jk_ 1 (.int .i64 n)) 4 (.slice none 0 0)) 5 (v_out)) 6 (.int .i64 i)) 7 (.int .u64 v_)) 11 (.int .i64 t11)) 12 (.int .i64 t12)) H (i_out :: L) (wide_down.R H0 L r) := by
 unfold wide_down.j2 at he
 unfold wide_down.Kj2
 refine w_region rfl ?_
 refine w_d rfl (d_move (v := v_out) rfl) ?_
 refine w_d rfl (d_move (v := .int .i64 i) rfl) ?_
 refine w_d rfl (d_move (v := .int .u64 v_) rfl) ?_
 refine w_d rfl (d_move (v := .int .i64 n) rfl) ?_
 obtain ⟨c23, he⟩ := rq he
 refine w_d rfl (d_shr (c := v_ / 2 ^ shn .u64 n) rfl rfl c23 rfl) ?_
 refine w_d rfl (d_conv (c := (v_ / 2 ^ shn .u64 n) % 4294967296) Tryd.underlying99 Tryd.underlying93 rfl rfl) ?_
 obtain ⟨c24, he⟩ := rq he
 refine w_d rfl (d_indexS (sz := 1) Tryd.underlying28 sz93 rfl h_out.shp rfl c24) ?_
 refine w_a0 rfl (o_storeEl (kd := (Kd.int .u32)) (v := .int .u32 ((v_ / 2 ^ shn .u64 n) % 4294967296)) (F := fun z_ => z_ :: L) sz93 rfl rfl rfl rfl h_out c24 (fun _ => .here)) ?_
 rintro _ _ _ ⟨i25, rfl, rfl, rfl, h26⟩
 refine w_done ?_
 refine w_inBlock ?_
 refine w_region rfl ?_
 refine w_d rfl (d_add (c := w64 (t12 + 1)) rfl rfl rfl) ?_
 refine w_d rfl (d_move (v := .int .i64 (w64 (t12 + 1))) rfl) ?_
 refine w_done ?_
 refine w_inLoop ?_
 refine w_sl 1 (.int .i64 n) rfl ?_
 refine w_sl 4 (.slice none 0 0) rfl ?_
 refine w_sl 5 (v_out) rfl ?_
 refine w_sl 11 (.int .i64 t11) rfl ?_
 refine w_sl 12 (.int .i64 (w64 (t12 + 1))) rfl ?_
 exact hh.l0 hle he h26
set_option maxRecDepth 100000 in
set_option maxHeartbeats 2000000 in
theorem wide_down.b0_ok {k : Nat} {h : wide_down.Hs} (hh : wide_down.OK h) {H0 H : Hp} {L : Items} {r : (List Int)} {jk_ : Nat → Value} {n : Int} {out : List Int} {t11 : Int} {t12 : Int} {v_out : Value} {i_out : Item'} (hle : H0.le H) (he : wide_down.b0 k h n out t11 t12 = some r) (h_out : Sl (Kd.int .u32) H 93 i_out v_out out) : Wp Tryd.prog 63 44 wide_down.Kl0 (upd (upd (upd (upd (upd jk_ 1 (.int .i64 n)) 4 (.slice none 0 0)) 5 (v_out)) 11 (.int .i64 t11)) 12 (.int .i64 t12)) H (i_out :: L) (wide_down.R H0 L r) := by
 unfold wide_down.b0 at he
 unfold wide_down.Kl0
 refine w_seq ?_
 refine w_region rfl ?_
 refine w_d rfl (d_lss rfl rfl) ?_
 refine w_done ?_
 refine w_seq ?_
 rcases its he with ⟨c10, he⟩ | ⟨c10, he⟩
 ·
  refine w_then rfl (decide_eq_true c10) ?_
  refine w_skip ?_
  refine w_seq ?_
  refine w_block ?_
  refine w_seq ?_
  refine w_region rfl ?_
  refine w_d rfl (d_move (v := .int .i64 t12) rfl) ?_
  refine w_d rfl (d_assign (v := .int .i64 t12) rfl) ?_
  refine w_done ?_
  refine w_seq ?_
  refine w_region rfl ?_
  refine w_d rfl (d_move (v := v_out) rfl) ?_
  refine w_d rfl (d_move (v := .int .i64 t12) rfl) ?_
  obtain ⟨c11, he⟩ := rq he
  refine w_d rfl (d_indexS (sz := 1) Tryd.underlying28 sz93 rfl h_out.shp rfl c11) ?_
  refine w_d rfl (d_ldint ty93 rfl (h_out.src .here) c11) ?_
  refine w_d rfl (d_conv (c := (rd out t12) % 18446744073709551616) Tryd.underlying93 Tryd.underlying99 rfl rfl) ?_
  refine w_d rfl (d_assign (v := .int .u64 ((rd out t12) % 18446744073709551616)) rfl) ?_
  refine w_done ?_
  refine w_seq ?_
  refine w_seq ?_
  refine w_region rfl ?_
  refine w_d rfl (d_move (v := .int .i64 t12) rfl) ?_
  refine w_d rfl (d_add (c := w64 (t12 + 1)) rfl rfl rfl) ?_
  refine w_d rfl (d_move (v := v_out) rfl) ?_
  refine w_d rfl (d_lenS Tryd.underlying28 rfl h_out.shp) ?_
  refine w_d rfl (d_lss rfl rfl) ?_
  refine w_done ?_
  rcases its he with ⟨c12, he⟩ | ⟨c12, he⟩
  ·
   refine w_then rfl (decide_eq_true c12) ?_
   refine w_region rfl ?_
   refine w_d rfl (d_move (v := .int .u64 ((rd out t12) % 18446744073709551616)) rfl) ?_
   refine w_d rfl (d_move (v := v_out) rfl) ?_
   refine w_d rfl (d_move (v := .int .i64 t12) rfl) ?_
   refine w_d rfl (d_add (c := w64 (t12 + 1)) rfl rfl rfl) ?_
   obtain ⟨c13, he⟩ := rq he
   refine w_d rfl (d_indexS (sz := 1) Tryd.underlying28 sz93 rfl h_out.shp rfl c13) ?_
   refine w_d rfl (d_ldint ty93 rfl (h_out.src .here) c13) ?_
   refine w_d rfl (d_conv (c := (rd out (w64 (t12 + 1))) % 18446744073709551616) Tryd.underlying93 Tryd.underlying99 rfl rfl) ?_
   refine w_d rfl (d_shl (c := (((rd out (w64 (t12 + 1))) % 18446744073709551616) * 4294967296) % 18446744073709551616) rfl rfl (by decide) rfl) ?_
   refine w_d rfl (d_bor rfl rfl) ?_
   refine w_d rfl (d_assign (v := .int .u64 (ior .u64 ((rd out t12) % 18446744073709551616) ((((rd out (w64 (t12 + 1))) % 18446744073709551616) * 4294967296) % 18446744073709551616))) rfl) ?_
   refine w_done ?_
   refine w_sl 1 (.int .i64 n) rfl ?_
   refine w_sl 4 (.slice none 0 0) rfl ?_
   refine w_sl 5 (v_out) rfl ?_
   refine w_sl 6 (.int .i64 t12) rfl ?_
   refine w_sl 7 (.int .u64 (ior .u64 ((rd out t12) % 18446744073709551616) ((((rd out (w64 (t12 + 1))) % 18446744073709551616) * 4294967296) % 18446744073709551616))) rfl ?_
   refine w_sl 11 (.int .i64 t11) rfl ?_
   refine w_sl 12 (.int .i64 t12) rfl ?_
   exact wide_down.j2_ok (k := k) hh hle he h_out
  ·
   refine w_else rfl (decide_eq_false c12) ?_
   refine w_skip ?_
   refine w_sl 1 (.int .i64 n) rfl ?_
   refine w_sl 4 (.slice none 0 0) rfl ?_
   refine w_sl 5 (v_out) rfl ?_
   refine w_sl 6 (.int .i64 t12) rfl ?_
   refine w_sl 7 (.int .u64 ((rd out t12) % 18446744073709551616)) rfl ?_
   refine w_sl 11 (.int .i64 t11) rfl ?_
   refine w_sl 12 (.int .i64 t12) rfl ?_
   exact wide_down.j2_ok (k := k) hh hle he h_out
 ·
  refine w_else rfl (decide_eq_false c10) ?_
  refine w_exit rfl ?_
  refine w_seq ?_
  refine w_region rfl ?_
  refine w_d rfl (d_move (v := v_out) rfl) ?_
  refine w_freeze h_out .here ?_
  intro H14 e15 h16
  obtain ⟨y17, hy18, he⟩ := Option.bind_eq_some_iff.1 he
  refine w_a rfl (o_call co64 (vs := [v_out]) rfl (wide_trim.calls k hy18 h16)) ?_
  rintro v21 H19 _ ⟨rfl, e20, h22⟩
  refine w_d rfl (d_assign (v := v21) rfl) ?_
  refine w_done ?_
  obtain rfl := Option.some.inj he
  refine w_return fn_63 rs_63 (.tmp (v := v21) rfl .nil) ?_
  exact ⟨⟨[_], rfl⟩, hle.trans (e15.trans e20), h22⟩
theorem wide_down.ok : ∀ k, wide_down.OK (wide_down.hs k)
 | 0 => ⟨(by intros; exact nomatch (show none = some _ from by assumption))⟩
 | k + 1 => ⟨wide_down.b0_ok (k := k) (wide_down.ok k)⟩
set_option maxRecDepth 100000 in
set_option maxHeartbeats 2000000 in
theorem wide_down.calls (k : Nat) {H : Hp} {L : Items} {w : List Int} {n : Int} {v0_w : Value} {r : (List Int)} (he : wide_down.f k w n = some r) (h0_w : Ro (Kd.int .u32) H v0_w w) : Ct Tryd.prog 63 ⟨[v0_w, .int .i64 n]⟩ H L (fun v H' L' => L = L' ∧ H.le H' ∧ wide_down.out r H' v) := by
 refine ct_out (O := wide_down.out r) ?_
 have hle : H.le H := .refl _
 have hh := wide_down.ok k
 unfold wide_down.f at he
 refine ct_enter (args := [v0_w, .int .i64 n]) fn_63 rfl nt_63 rfl ?_
 refine w_seq ?_
 refine w_region rfl ?_
 refine w_d rfl (d_assign (v := .slice none 0 0) rfl) ?_
 refine w_done ?_
 refine w_seq ?_
 refine w_region rfl ?_
 refine w_d rfl (d_move (v := v0_w) rfl) ?_
 obtain ⟨y1, hy2, he⟩ := Option.bind_eq_some_iff.1 he
 refine w_a rfl (o_call co58 (vs := [v0_w]) rfl (slices_Clone_uint32_uint32.calls k hy2 h0_w)) ?_
 rintro v7 H3 _ ⟨i8, rfl, e4, h9⟩
 refine w_d rfl (d_assign (v := v7) rfl) ?_
 refine w_done ?_
 refine w_seq ?_
 refine w_seq ?_
 refine w_region rfl ?_
 refine w_d rfl (d_move (v := v7) rfl) ?_
 refine w_d rfl (d_lenS Tryd.underlying28 rfl h9.shp) ?_
 refine w_d rfl (d_move (v := .int .i64 0) rfl) ?_
 refine w_done ?_
 refine w_block ?_
 refine w_loop ?_
 refine w_sl 1 (.int .i64 n) rfl ?_
 refine w_sl 4 (.slice none 0 0) rfl ?_
 refine w_sl 5 (v7) rfl ?_
 refine w_sl 11 (.int .i64 (y1.length : Int)) rfl ?_
 refine w_sl 12 (.int .i64 0) rfl ?_
 exact hh.l0 (hle.trans e4) he h9
end Go.Proofs.YtmnhbbckndlnkaaDoor.GWS

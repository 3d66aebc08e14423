/- printed by gen.py -/
import Derived.Test.YtkccpkccdbfomaaGreatDoorGSHx1
namespace Go.Proofs.YtkccpkccdbfomaaGreatDoor.GSH
open Go Go.RowKit Go.Proofs.YtkccpkccdbfomaaGreatDoorK Go.Proofs.YtkccpkccdbfomaaGreatDoor
set_option maxRecDepth 100000
set_option maxHeartbeats 2000000
set_option linter.unusedVariables false
set_option linter.unusedSimpArgs false
noncomputable def radomeref01_Text.C : Code := (Tryz.f99.body).getD .skip
def radomeref01_Text.out (r : ByteArray) (H : Hp) (v : Value) : Prop := v = .string r
abbrev radomeref01_Text.R (H0 : Hp) (L : Items) (r : ByteArray) := fR H0 L (radomeref01_Text.out r)
structure radomeref01_Text.Hs where
 l0 : Bool → (List Int) → ByteArray → ByteArray → Int → Option ByteArray
noncomputable def radomeref01_Text.j1 (k : Nat) (h : radomeref01_Text.Hs)  (a_0 : Bool) (a_1 : List Int) (t2 : ByteArray) (s : ByteArray) : Option ByteArray := if (a_1.length : Int) = 0 then (some (str_2)) else (h.l0 a_0 a_1 t2 s (w64 ((a_1.length : Int) - 1)))
noncomputable def radomeref01_Text.b0 (k : Nat) (h : radomeref01_Text.Hs)  (a_0 : Bool) (a_1 : List Int) (t2 : ByteArray) (s : ByteArray) (i : Int) : Option ByteArray := if 0 ≤ i then (if (0 : Int) ≤ i ∧ i < (a_1.length : Int) then (if (0 : Int) ≤ i ∧ i < (a_1.length : Int) then (if (0 : Int) ≤ rd a_1 i ∧ (rd a_1 i : Int) ≤ w64 ((rd a_1 i) + 1) ∧ w64 ((rd a_1 i) + 1) ≤ (str_3.size : Int) then (if (s.size + (scut str_3 (rd a_1 i) (w64 ((rd a_1 i) + 1))).size : Int) ≤ 9223372036854775807 then (h.l0 a_0 a_1 t2 (s ++ (scut str_3 (rd a_1 i) (w64 ((rd a_1 i) + 1)))) (w64 (i - 1))) else none) else none) else none) else none) else (some (s))
noncomputable def radomeref01_Text.hs : Nat → radomeref01_Text.Hs
 | 0 => ⟨fun _ _ _ _ _ => none⟩
 | k + 1 => ⟨fun x0 x1 x2 x3 x4 => radomeref01_Text.b0 k (radomeref01_Text.hs k) x0 x1 x2 x3 x4⟩
noncomputable def radomeref01_Text.f (k : Nat) (a : radomeref01_Num) : Option ByteArray := (fun h : radomeref01_Text.Hs => (radomeref01_Sign.f k a).bind fun y2 => if y2 < 0 then (radomeref01_Text.j1 k h a.f_Neg a.f_D str_0 str_1) else (radomeref01_Text.j1 k h a.f_Neg a.f_D str_0 str_0)) (radomeref01_Text.hs k)
noncomputable def radomeref01_Text.Kj1 : List Item := .code (seqR (seqR (seqR radomeref01_Text.C))) :: []
noncomputable def radomeref01_Text.Kl0 : List Item := .code (lopB (blkB (seqR (seqL (seqR (seqR (seqR (seqR radomeref01_Text.C)))))))) :: .inLoop (lopB (blkB (seqR (seqL (seqR (seqR (seqR (seqR radomeref01_Text.C)))))))) :: .inBlock 0 :: .code (seqR (seqR (seqR (seqR (seqR radomeref01_Text.C))))) :: []
structure radomeref01_Text.OK (h : radomeref01_Text.Hs) : Prop where
 l0 : ∀ {H0 H : Hp} {L : Items} {r : ByteArray} {jk_ : Nat → Value} {a_0 : Bool} {a_1 : List Int} {t2 : ByteArray} {s : ByteArray} {i : Int} {v_a_1 : Value} {b_a : Nat} (_ : H0.le H) (_he : h.l0 a_0 a_1 t2 s i = some r) (_h_a_1 : Ro kI64 H v_a_1 a_1), Wp Tryz.prog 99 35 radomeref01_Text.Kl0 (upd (upd (upd (upd jk_ 1 (.pointer (some ⟨b_a, 0, none⟩))) 2 (.string t2)) 3 (.string s)) 4 (.int .i64 i)) H (some (b_a, .cells ⟨[.bool a_0, v_a_1]⟩ 37 (0, 0)) :: L) (radomeref01_Text.R H0 L r)
theorem radomeref01_Text.j1_ok {k : Nat} {h : radomeref01_Text.Hs} (hh : radomeref01_Text.OK h) {H0 H : Hp} {L : Items} {r : ByteArray} {jk_ : Nat → Value} {a_0 : Bool} {a_1 : List Int} {t2 : ByteArray} {s : ByteArray} {v_a_1 : Value} {b_a : Nat} (hle : H0.le H) (he : radomeref01_Text.j1 k h a_0 a_1 t2 s = some r) (h_a_1 : Ro kI64 H v_a_1 a_1) : Wp Tryz.prog 99 35 radomeref01_Text.Kj1 (upd (upd (upd jk_ 1 (.pointer (some ⟨b_a, 0, none⟩))) 2 (.string t2)) 3 (.string s)) H (some (b_a, .cells ⟨[.bool a_0, v_a_1]⟩ 37 (0, 0)) :: L) (radomeref01_Text.R H0 L r) := by
 unfold radomeref01_Text.j1 at he
 unfold radomeref01_Text.Kj1
 refine w_seq <| wR rfl <| w_d rfl (d_fld (o' := 1) Tryz.underlying37 rfl sz35 rfl rfl rfl) <| wL v_a_1 ty35 rfl rfl .here rfl rfl <| w_d rfl (d_len Tryz.underlying35 rfl h_a_1.src) <| w_d rfl (d_eql rfl rfl) <| w_done ?_
 rcases its he with ⟨c7, he⟩ | ⟨c7, he⟩
 ·
  refine w_then rfl (dt c7) <| wR rfl <| wA (.string str_2) rfl rfl <| w_done ?_
  obtain rfl := sj he
  refine w_return fn_99 rs_99 (.tmp (v := .string str_2) rfl .nil) <| ⟨⟨[_], rfl⟩, hle, rfl⟩
 ·
  refine w_else rfl (df c7) <| w_skip <| w_seq <| wR rfl <| w_d rfl (d_fld (o' := 1) Tryz.underlying37 rfl sz35 rfl rfl rfl) <| wL v_a_1 ty35 rfl rfl .here rfl rfl <| w_d rfl (d_len Tryz.underlying35 rfl h_a_1.src) <| w_d rfl (d_sub (c := w64 ((a_1.length : Int) - 1)) rfl rfl rfl) <| wA (.int .i64 (w64 ((a_1.length : Int) - 1))) rfl rfl <| w_done <| w_block ?_
  refine w_loop <| w_sl 1 (.pointer (some ⟨b_a, 0, none⟩)) rfl <| w_sl 2 (.string t2) rfl <| w_sl 3 (.string s) rfl <| w_sl 4 (.int .i64 (w64 ((a_1.length : Int) - 1))) rfl <| hh.l0 hle he h_a_1
theorem radomeref01_Text.b0_ok {k : Nat} {h : radomeref01_Text.Hs} (hh : radomeref01_Text.OK h) {H0 H : Hp} {L : Items} {r : ByteArray} {jk_ : Nat → Value} {a_0 : Bool} {a_1 : List Int} {t2 : ByteArray} {s : ByteArray} {i : Int} {v_a_1 : Value} {b_a : Nat} (hle : H0.le H) (he : radomeref01_Text.b0 k h a_0 a_1 t2 s i = some r) (h_a_1 : Ro kI64 H v_a_1 a_1) : Wp Tryz.prog 99 35 radomeref01_Text.Kl0 (upd (upd (upd (upd jk_ 1 (.pointer (some ⟨b_a, 0, none⟩))) 2 (.string t2)) 3 (.string s)) 4 (.int .i64 i)) H (some (b_a, .cells ⟨[.bool a_0, v_a_1]⟩ 37 (0, 0)) :: L) (radomeref01_Text.R H0 L r) := by
 unfold radomeref01_Text.b0 at he
 unfold radomeref01_Text.Kl0
 refine w_seq <| wR rfl <| wM (.int .i64 i) rfl rfl <| w_d rfl (d_geq rfl rfl) <| w_done ?_
 rcases its he with ⟨c8, he⟩ | ⟨c8, he⟩
 ·
  refine w_then rfl (dt c8) <| w_skip <| w_seq <| w_block ?_
  obtain ⟨c9, he⟩ := rq he
  obtain ⟨c10, he⟩ := rq he
  obtain ⟨c11, he⟩ := rq he
  refine w_drawn (p := 13) (tl := [13, 14]) [[], [], [(1, some 21)], [], [(2, some 22), (3, some 23)], [(4, some 24)], [], [(6, some 26)], [], [(7, some 27), (8, some 28)], [(9, some 29)], [(10, some 30)], [(5, some 25), (11, some 31)]] [some 20, some 21, some 22, some 23, some 24, some 25, some 26, some 27, some 28, some 29, some 30, some 31, some 32] (fctF (.is (.string s) :: .is (.pointer (some ⟨b_a, 1, none⟩)) :: .is (v_a_1) :: .is (.int .i64 i) :: .is (.pointer (some (pel v_a_1 i 1))) :: .is (.int .i64 (rd a_1 i)) :: .is (.pointer (some ⟨b_a, 1, none⟩)) :: .is (v_a_1) :: .is (.int .i64 i) :: .is (.pointer (some (pel v_a_1 i 1))) :: .is (.int .i64 (rd a_1 i)) :: .is (.int .i64 (w64 ((rd a_1 i) + 1))) :: .is (.string (scut str_3 (rd a_1 i) (w64 ((rd a_1 i) + 1)))) :: [])) (fun m_ => some (b_a, .cells ⟨[.bool a_0, v_a_1]⟩ 37 (0, 0)) :: L) (fun _ => none) mixed (by kernel_rfl) (by kernel_rfl) rfl (fct_mono (by kernel_rfl)) ⟨(fun H' m_ hH hm_ hu_ => dn <| s_d (m_ 0) rfl (d_move (v := .string s) rfl) (by exact rfl) rfl), (fun H' m_ hH hm_ hu_ => dn <| s_d (m_ 1) rfl (d_fld (o' := 1) Tryz.underlying37 rfl sz35 rfl rfl rfl) (by exact rfl) rfl), (by rintro H' m_ hH hm_ hu_ _ rfl; exact dn <| s_d (m_ 2) rfl (d_loado (v := v_a_1) ty35 rfl .here rfl rfl rfl rfl) (by exact rfl) rfl), (fun H' m_ hH hm_ hu_ => dn <| s_d (m_ 3) rfl (d_move (v := .int .i64 i) rfl) (by exact rfl) rfl), (by rintro H' m_ hH hm_ hu_ _ rfl _ rfl; exact dn <| s_d (m_ 4) rfl (d_index (sz := 1) Tryz.underlying35 sz3 rfl (h_a_1.mono hH).src rfl c9) (by exact rfl) rfl), (by rintro H' m_ hH hm_ hu_ _ rfl; exact dn <| s_d (m_ 5) rfl (d_ldint ty3 rfl (h_a_1.mono hH).src c9) (by exact rfl) rfl), (fun H' m_ hH hm_ hu_ => dn <| s_d (m_ 6) rfl (d_fld (o' := 1) Tryz.underlying37 rfl sz35 rfl rfl rfl) (by exact rfl) rfl), (by rintro H' m_ hH hm_ hu_ _ rfl; exact dn <| s_d (m_ 7) rfl (d_loado (v := v_a_1) ty35 rfl .here rfl rfl rfl rfl) (by exact rfl) rfl), (fun H' m_ hH hm_ hu_ => dn <| s_d (m_ 8) rfl (d_move (v := .int .i64 i) rfl) (by exact rfl) rfl), (by rintro H' m_ hH hm_ hu_ _ rfl _ rfl; exact dn <| s_d (m_ 9) rfl (d_index (sz := 1) Tryz.underlying35 sz3 rfl (h_a_1.mono hH).src rfl c10) (by exact rfl) rfl), (by rintro H' m_ hH hm_ hu_ _ rfl; exact dn <| s_d (m_ 10) rfl (d_ldint ty3 rfl (h_a_1.mono hH).src c10) (by exact rfl) rfl), (by rintro H' m_ hH hm_ hu_ _ rfl; exact dn <| s_d (m_ 11) rfl (d_add (c := w64 ((rd a_1 i) + 1)) rfl rfl rfl) (by exact rfl) rfl), (by rintro H' m_ hH hm_ hu_ _ rfl _ rfl; exact dn <| s_d (m_ 12) rfl (d_scut Tryz.underlying9 rfl (.inr ⟨_, _, rfl, rfl⟩) (.inr ⟨_, _, rfl, rfl⟩) c11) (by exact rfl) rfl), trivial⟩ ?_
  intro H12 e13
  rintro _ _ rfl _ _ rfl _ _ rfl _ _ rfl _ _ rfl _ _ rfl _ _ rfl _ _ rfl _ _ rfl _ _ rfl _ _ rfl _ _ rfl _ _ rfl
  obtain ⟨c14, he⟩ := rq he
  refine w_d rfl (d_cat rfl rfl c14) <| wA (.string (s ++ (scut str_3 (rd a_1 i) (w64 ((rd a_1 i) + 1))))) rfl rfl <| w_done <| w_inBlock <| w_region rfl <| wM (.int .i64 i) rfl rfl <| w_d rfl (d_sub (c := w64 (i - 1)) rfl rfl rfl) <| wA (.int .i64 (w64 (i - 1))) rfl rfl <| w_done <| w_inLoop <| w_sl 1 (.pointer (some ⟨b_a, 0, none⟩)) rfl <| w_sl 2 (.string t2) rfl ?_
  refine w_sl 3 (.string (s ++ (scut str_3 (rd a_1 i) (w64 ((rd a_1 i) + 1))))) rfl <| w_sl 4 (.int .i64 (w64 (i - 1))) rfl <| hh.l0 (hle.trans e13) he (h_a_1.mono e13)
 ·
  refine w_else rfl (df c8) <| w_exit rfl <| wR rfl <| wM (.string s) rfl rfl <| wA (.string s) rfl rfl <| w_done ?_
  obtain rfl := sj he
  refine w_return fn_99 rs_99 (.tmp (v := .string s) rfl .nil) <| ⟨⟨[_], rfl⟩, hle, rfl⟩
theorem radomeref01_Text.ok : ∀ k, radomeref01_Text.OK (radomeref01_Text.hs k)
 | 0 => ⟨(by intros; exact nomatch (show none = some _ from by assumption))⟩
 | k + 1 => ⟨radomeref01_Text.b0_ok (k := k) (radomeref01_Text.ok k)⟩
theorem radomeref01_Text.calls (k : Nat) {H : Hp} {L : Items} {a : radomeref01_Num} {v0_a : Value} {r : ByteArray} (he : radomeref01_Text.f k a = some r) (h0_a : Ro kI64 H v0_a a.f_D) : Ct Tryz.prog 99 ⟨[.agg ⟨[.bool a.f_Neg, v0_a]⟩]⟩ H L (fun v H' L' => L = L' ∧ H = H' ∧ v = .string r) := by
 refine ct_outs (O := radomeref01_Text.out r) (fun _ _ h => h) ?_
 have hle : H.le H := .refl _
 have hh := radomeref01_Text.ok k
 unfold radomeref01_Text.f at he
 refine ct_enter (args := [.agg ⟨[.bool a.f_Neg, v0_a]⟩]) fn_99 rfl nt_99 rfl <| wR rfl <| w_a rfl (o_box (v := .agg ⟨[.bool a.f_Neg, v0_a]⟩) rfl rfl) ?_
 rintro _ _ _ ⟨b1, rfl, rfl, rfl⟩
 refine wA (.string str_0) rfl rfl <| wQ rfl <| wA (.string str_0) rfl rfl <| wE <| wR rfl <| wL (.agg ⟨[.bool a.f_Neg, v0_a]⟩) ty37 rfl rfl .here rfl rfl ?_
 obtain ⟨y2, hy3, he⟩ := bs he
 refine w_d rfl (call_d (o_call co62 (vs := [.agg ⟨[.bool a.f_Neg, v0_a]⟩]) rfl (radomeref01_Sign.calls k (a := a) hy3 h0_a))) <| w_d rfl (d_lss rfl rfl) <| w_done ?_
 rcases its he with ⟨c6, he⟩ | ⟨c6, he⟩
 ·
  refine w_then rfl (dt c6) <| w_region rfl <| wA (.string str_1) rfl rfl <| w_done <| w_sl 1 (.pointer (some ⟨b1, 0, none⟩)) rfl <| w_sl 2 (.string str_0) rfl <| w_sl 3 (.string str_1) rfl <| radomeref01_Text.j1_ok (k := k) hh hle he h0_a
 ·
  refine w_else rfl (df c6) <| w_skip <| w_sl 1 (.pointer (some ⟨b1, 0, none⟩)) rfl <| w_sl 2 (.string str_0) rfl <| w_sl 3 (.string str_0) rfl <| radomeref01_Text.j1_ok (k := k) hh hle he h0_a
noncomputable def wide_digits.C : Code := (Tryz.f147.body).getD .skip
def wide_digits.out (r : Bool) (H : Hp) (v : Value) : Prop := v = .bool r
abbrev wide_digits.R (H0 : Hp) (L : Items) (r : Bool) := fR H0 L (wide_digits.out r)
structure wide_digits.Hs where
 l0 : Bool → (List Int) → Int → Int → Option Bool
noncomputable def wide_digits.b0 (k : Nat) (h : wide_digits.Hs)  (t2 : Bool) (t24 : List Int) (t25 : Int) (t26 : Int) : Option Bool := if t26 < t25 then (if (0 : Int) ≤ t26 ∧ t26 < (t24.length : Int) then (if ((decide ((rd t24 t26) < 48)) || (decide (57 < (rd t24 t26)))) = true then (some (false)) else (h.l0 t2 t24 t25 (w64 (t26 + 1)))) else none) else (some (true))
noncomputable def wide_digits.hs : Nat → wide_digits.Hs
 | 0 => ⟨fun _ _ _ _ => none⟩
 | k + 1 => ⟨fun x0 x1 x2 x3 => wide_digits.b0 k (wide_digits.hs k) x0 x1 x2 x3⟩
noncomputable def wide_digits.f (k : Nat) (s : ByteArray) : Option Bool := (fun h : wide_digits.Hs => if (!((decide ((s.size : Int) = 0)) || (decide (1300 < (s.size : Int))))) = true → (0 : Int) ≤ 0 ∧ 0 < (s.size : Int) then (if (((decide ((s.size : Int) = 0)) || (decide (1300 < (s.size : Int)))) || ((decide ((bt s 0) = 48)) && (decide (1 < (s.size : Int))))) = true then (some (false)) else (h.l0 false (bytesOf s) ((bytesOf s).length : Int) 0)) else none) (wide_digits.hs k)
noncomputable def wide_digits.Kl0 : List Item := .code (lopB (blkB (seqR (seqL (seqR (seqR wide_digits.C)))))) :: .inLoop (lopB (blkB (seqR (seqL (seqR (seqR wide_digits.C)))))) :: .inBlock 0 :: .code (seqR (seqR (seqR wide_digits.C))) :: []
structure wide_digits.OK (h : wide_digits.Hs) : Prop where
 l0 : ∀ {H0 H : Hp} {L : Items} {r : Bool} {jk_ : Nat → Value} {t2 : Bool} {t24 : List Int} {t25 : Int} {t26 : Int} {v_t24 : Value} (_ : H0.le H) (_he : h.l0 t2 t24 t25 t26 = some r) (_h_t24 : Ro kU8 H v_t24 t24), Wp Tryz.prog 147 37 wide_digits.Kl0 (upd (upd (upd (upd jk_ 2 (.bool t2)) 24 (v_t24)) 25 (.int .i64 t25)) 26 (.int .i64 t26)) H (L) (wide_digits.R H0 L r)
theorem wide_digits.b0_ok {k : Nat} {h : wide_digits.Hs} (hh : wide_digits.OK h) {H0 H : Hp} {L : Items} {r : Bool} {jk_ : Nat → Value} {t2 : Bool} {t24 : List Int} {t25 : Int} {t26 : Int} {v_t24 : Value} (hle : H0.le H) (he : wide_digits.b0 k h t2 t24 t25 t26 = some r) (h_t24 : Ro kU8 H v_t24 t24) : Wp Tryz.prog 147 37 wide_digits.Kl0 (upd (upd (upd (upd jk_ 2 (.bool t2)) 24 (v_t24)) 25 (.int .i64 t25)) 26 (.int .i64 t26)) H (L) (wide_digits.R H0 L r) := by
 unfold wide_digits.b0 at he
 unfold wide_digits.Kl0
 refine wR rfl <| w_d rfl (d_lss rfl rfl) <| wE ?_
 rcases its he with ⟨c18, he⟩ | ⟨c18, he⟩
 ·
  refine w_then rfl (dt c18) <| w_skip <| w_seq <| w_block <| wR rfl ?_
  obtain ⟨c19, he⟩ := rq he
  refine w_d rfl (d_index (sz := 1) Tryz.underlying52 sz5 rfl h_t24.src rfl c19) <| w_d rfl (d_ldint ty5 rfl h_t24.src c19) <| wA (.int .u8 (rd t24 t26)) rfl rfl <| wQ rfl <| wM (.int .u8 (rd t24 t26)) rfl rfl <| w_d rfl (d_lss rfl rfl) <| wM (.bool (decide ((rd t24 t26) < 48))) rfl rfl <| w_g (g := !(decide ((rd t24 t26) < 48))) rfl rfl rfl wn_f (fun g20 => d_move (v := .int .u8 (rd t24 t26)) rfl) <| w_g (g := !(decide ((rd t24 t26) < 48))) rfl rfl rfl wn_f (fun g21 => d_gtr (cvt g21) rfl) <| w_d rfl (d_or' (b := (decide ((rd t24 t26) < 48))) (p := (decide (57 < (rd t24 t26)))) rfl rfl rfl) ?_
  refine w_done ?_
  rcases its he with ⟨c22, he⟩ | ⟨c22, he⟩
  ·
   refine w_then rfl c22 <| wR rfl <| wA (.bool false) rfl rfl <| w_done ?_
   obtain rfl := sj he
   refine w_return fn_147 rs_147 (.tmp (v := .bool false) rfl .nil) <| ⟨⟨[], rfl⟩, hle, rfl⟩
  ·
   refine w_else rfl (Bool.eq_false_iff.2 c22) <| w_skip <| w_inBlock <| w_region rfl <| w_d rfl (d_add (c := w64 (t26 + 1)) rfl rfl rfl) <| wM (.int .i64 (w64 (t26 + 1))) rfl rfl <| w_done <| w_inLoop <| w_sl 2 (.bool t2) rfl <| w_sl 24 (v_t24) rfl <| w_sl 25 (.int .i64 t25) rfl <| w_sl 26 (.int .i64 (w64 (t26 + 1))) rfl <| hh.l0 hle he h_t24
 ·
  refine w_else rfl (df c18) <| w_exit rfl <| wR rfl <| wA (.bool true) rfl rfl <| w_done ?_
  obtain rfl := sj he
  refine w_return fn_147 rs_147 (.tmp (v := .bool true) rfl .nil) <| ⟨⟨[], rfl⟩, hle, rfl⟩
theorem wide_digits.ok : ∀ k, wide_digits.OK (wide_digits.hs k)
 | 0 => ⟨(by intros; exact nomatch (show none = some _ from by assumption))⟩
 | k + 1 => ⟨wide_digits.b0_ok (k := k) (wide_digits.ok k)⟩
theorem wide_digits.calls (k : Nat) {H : Hp} {L : Items} {s : ByteArray} {r : Bool} (he : wide_digits.f k s = some r) : Ct Tryz.prog 147 ⟨[.string s]⟩ H L (fun v H' L' => L = L' ∧ H = H' ∧ v = .bool r) := by
 refine ct_outs (O := wide_digits.out r) (fun _ _ h => h) ?_
 have hle : H.le H := .refl _
 have hh := wide_digits.ok k
 unfold wide_digits.f at he
 refine ct_enter (args := [.string s]) fn_147 rfl nt_147 rfl <| wR rfl <| wA (.bool false) rfl rfl <| wE <| wR rfl <| wM (.string s) rfl rfl <| w_d rfl (d_lens Tryz.underlying9 rfl) <| w_d rfl (d_eql rfl rfl) <| wM (.bool (decide ((s.size : Int) = 0))) rfl rfl ?_
 refine w_g (g := !(decide ((s.size : Int) = 0))) rfl rfl rfl wn_f (fun g1 => d_move (v := .string s) rfl) <| w_g (g := !(decide ((s.size : Int) = 0))) rfl rfl rfl wn_f (fun g2 => d_lens Tryz.underlying9 (cvt g2)) <| w_g (g := !(decide ((s.size : Int) = 0))) rfl rfl rfl wn_f (fun g3 => d_gtr (cvt g3) rfl) <| w_d rfl (d_or' (b := (decide ((s.size : Int) = 0))) (p := (decide (1300 < (s.size : Int)))) rfl rfl rfl) <| wM (.bool ((decide ((s.size : Int) = 0)) || (decide (1300 < (s.size : Int))))) rfl rfl <| w_g (g := !((decide ((s.size : Int) = 0)) || (decide (1300 < (s.size : Int))))) rfl rfl rfl wn_f (fun g4 => d_move (v := .string s) rfl) ?_
 obtain ⟨c6, he⟩ := rq he
 refine w_g (g := !((decide ((s.size : Int) = 0)) || (decide (1300 < (s.size : Int))))) rfl rfl rfl wn_f (fun g5 => d_bt Tryz.underlying9 (cvt g5) rfl (c6 g5)) <| w_g (g := !((decide ((s.size : Int) = 0)) || (decide (1300 < (s.size : Int))))) rfl rfl rfl wn_f (fun g7 => d_eql (cvt g7) rfl) <| w_g (g := !((decide ((s.size : Int) = 0)) || (decide (1300 < (s.size : Int))))) rfl rfl rfl wn_f (fun g8 => d_move (v := .bool (decide ((bt s 0) = 48))) (cvt g8)) <| w_g (g := (!((decide ((s.size : Int) = 0)) || (decide (1300 < (s.size : Int))))) && (decide ((bt s 0) = 48))) rfl rfl rfl wn_gt (fun g9 => d_move (v := .string s) rfl) <| w_g (g := (!((decide ((s.size : Int) = 0)) || (decide (1300 < (s.size : Int))))) && (decide ((bt s 0) = 48))) rfl rfl rfl wn_gt (fun g10 => d_lens Tryz.underlying9 (cvt g10)) <| w_g (g := (!((decide ((s.size : Int) = 0)) || (decide (1300 < (s.size : Int))))) && (decide ((bt s 0) = 48))) rfl rfl rfl wn_gt (fun g11 => d_gtr (cvt g11) rfl) <| w_g (g := !((decide ((s.size : Int) = 0)) || (decide (1300 < (s.size : Int))))) rfl rfl rfl wn_f (fun g12 => d_and' (b := (decide ((bt s 0) = 48))) (p := (decide (1 < (s.size : Int)))) (cvt g12) (cva g12) rfl) <| w_d rfl (d_or' (b := ((decide ((s.size : Int) = 0)) || (decide (1300 < (s.size : Int))))) (p := ((decide ((bt s 0) = 48)) && (decide (1 < (s.size : Int))))) rfl rfl rfl) <| w_done ?_
 rcases its he with ⟨c13, he⟩ | ⟨c13, he⟩
 ·
  refine w_then rfl c13 <| wR rfl <| wA (.bool false) rfl rfl <| w_done ?_
  obtain rfl := sj he
  refine w_return fn_147 rs_147 (.tmp (v := .bool false) rfl .nil) <| ⟨⟨[], rfl⟩, hle, rfl⟩
 ·
  refine w_else rfl (Bool.eq_false_iff.2 c13) <| w_skip <| w_seq <| wR rfl <| wM (.string s) rfl rfl <| w_a rfl (o_bytes Tryz.underlying9 Tryz.underlying52 Tryz.underlying5 rfl) ?_
  rintro v14 H15 _ ⟨rfl, e16, h17⟩
  refine w_d rfl (d_len Tryz.underlying52 rfl h17.src) <| wM (.int .i64 0) rfl rfl <| w_done <| w_block <| w_loop <| w_sl 2 (.bool false) rfl <| w_sl 24 (v14) rfl <| w_sl 25 (.int .i64 ((bytesOf s).length : Int)) rfl <| w_sl 26 (.int .i64 0) rfl <| hh.l0 (hle.trans e16) he h17
noncomputable def wide_times.C : Code := (Tryz.f145.body).getD .skip
abbrev wide_times.out (r : (List Int)) (H : Hp) (v : Value) : Prop := Ro kU32 H v r
abbrev wide_times.R (H0 : Hp) (L : Items) (r : (List Int)) := fR H0 L (wide_times.out r)
structure wide_times.Hs where
 l0 : (List Int) → (List Int) → (List Int) → Int → Int → Option (List Int)
 l1 : (List Int) → (List Int) → Int → Int → Int → (List Int) → Int → Int → (List Int) → Int → Int → Option (List Int)
noncomputable def wide_times.b0 (k : Nat) (h : wide_times.Hs)  (b : List Int) (out : List Int) (t18 : List Int) (t19 : Int) (t20 : Int) : Option (List Int) := if t20 < t19 then (if (0 : Int) ≤ t20 ∧ t20 < (t18.length : Int) then (h.l1 b out t20 (rd t18 t20) 0 t18 t19 t20 b (b.length : Int) 0) else none) else (some (out))
noncomputable def wide_times.b1 (k : Nat) (h : wide_times.Hs)  (b : List Int) (out : List Int) (i : Int) (x : Int) (carry : Int) (t18 : List Int) (t19 : Int) (t20 : Int) (t25 : List Int) (t26 : Int) (t27 : Int) : Option (List Int) := if t27 < t26 then (if (0 : Int) ≤ t27 ∧ t27 < (t25.length : Int) then (if (0 : Int) ≤ w64 (i + t27) ∧ w64 (i + t27) < (out.length : Int) then (if (0 : Int) ≤ w64 (i + t27) ∧ w64 (i + t27) < (out.length : Int) then (h.l1 b (out.set (w64 (i + t27) : Int).toNat (((((((((x) % 18446744073709551616) * ((rd t25 t27) % 18446744073709551616)) % 18446744073709551616) + ((rd out (w64 (i + t27))) % 18446744073709551616)) % 18446744073709551616) + carry) % 18446744073709551616) % 4294967296)) i x (((((((((x) % 18446744073709551616) * ((rd t25 t27) % 18446744073709551616)) % 18446744073709551616) + ((rd out (w64 (i + t27))) % 18446744073709551616)) % 18446744073709551616) + carry) % 18446744073709551616) / 4294967296) t18 t19 t20 t25 t26 (w64 (t27 + 1))) else none) else none) else none) else (if (0 : Int) ≤ w64 (i + (b.length : Int)) ∧ w64 (i + (b.length : Int)) < (out.length : Int) then (h.l0 b (out.set (w64 (i + (b.length : Int)) : Int).toNat ((carry) % 4294967296)) t18 t19 (w64 (t20 + 1))) else none)
noncomputable def wide_times.hs : Nat → wide_times.Hs
 | 0 => ⟨fun _ _ _ _ _ => none, fun _ _ _ _ _ _ _ _ _ _ _ => none⟩
 | k + 1 => ⟨fun x0 x1 x2 x3 x4 => wide_times.b0 k (wide_times.hs k) x0 x1 x2 x3 x4, fun x0 x1 x2 x3 x4 x5 x6 x7 x8 x9 x10 => wide_times.b1 k (wide_times.hs k) x0 x1 x2 x3 x4 x5 x6 x7 x8 x9 x10⟩
noncomputable def wide_times.f (k : Nat) (a : List Int) (b : List Int) : Option (List Int) := (fun h : wide_times.Hs => if 0 ≤ w64 ((a.length : Int) + (b.length : Int)) ∧ w64 ((a.length : Int) + (b.length : Int)) ≤ 70368744177664 then (h.l0 b (List.replicate (w64 ((a.length : Int) + (b.length : Int)) : Int).toNat (0 : Int)) a (a.length : Int) 0) else none) (wide_times.hs k)
structure wide_times.LE (h h' : wide_times.Hs) : Prop where
 l0 : ∀ y0 y1 y2 y3 y4, LeO (h.l0 y0 y1 y2 y3 y4) (h'.l0 y0 y1 y2 y3 y4)
 l1 : ∀ y0 y1 y2 y3 y4 y5 y6 y7 y8 y9 y10, LeO (h.l1 y0 y1 y2 y3 y4 y5 y6 y7 y8 y9 y10) (h'.l1 y0 y1 y2 y3 y4 y5 y6 y7 y8 y9 y10)
theorem wide_times.b0_mono {k : Nat} {h h' : wide_times.Hs} (hl : wide_times.LE h h') : ∀ y0 y1 y2 y3 y4, LeO (wide_times.b0 k h y0 y1 y2 y3 y4) (wide_times.b0 (k + 1) h' y0 y1 y2 y3 y4) := fun _ _ _ _ _ => (LeO.ite (LeO.ite (hl.l1 _ _ _ _ _ _ _ _ _ _ _) (LeO.refl _)) (LeO.refl _))
theorem wide_times.b1_mono {k : Nat} {h h' : wide_times.Hs} (hl : wide_times.LE h h') : ∀ y0 y1 y2 y3 y4 y5 y6 y7 y8 y9 y10, LeO (wide_times.b1 k h y0 y1 y2 y3 y4 y5 y6 y7 y8 y9 y10) (wide_times.b1 (k + 1) h' y0 y1 y2 y3 y4 y5 y6 y7 y8 y9 y10) := fun _ _ _ _ _ _ _ _ _ _ _ => (LeO.ite (LeO.ite (LeO.ite (LeO.ite (hl.l1 _ _ _ _ _ _ _ _ _ _ _) (LeO.refl _)) (LeO.refl _)) (LeO.refl _)) (LeO.ite (hl.l0 _ _ _ _ _) (LeO.refl _)))
theorem wide_times.hs_mono : ∀ k, wide_times.LE (wide_times.hs k) (wide_times.hs (k + 1))
 | 0 => ⟨fun _ _ _ _ _ => LeO.none _, fun _ _ _ _ _ _ _ _ _ _ _ => LeO.none _⟩
 | k + 1 => ⟨wide_times.b0_mono (k := k) (wide_times.hs_mono k), wide_times.b1_mono (k := k) (wide_times.hs_mono k)⟩
theorem wide_times.mono : ∀ k y0 y1, LeO (wide_times.f k y0 y1) (wide_times.f (k + 1) y0 y1) := fun k _ _ => have hl := wide_times.hs_mono k; by unfold wide_times.f; exact (LeO.ite (hl.l0 _ _ _ _ _) (LeO.refl _))
noncomputable def wide_times.Kl0 : List Item := .code (lopB (blkB (seqR (seqL (seqR (seqR wide_times.C)))))) :: .inLoop (lopB (blkB (seqR (seqL (seqR (seqR wide_times.C)))))) :: .inBlock 0 :: .code (seqR (seqR (seqR wide_times.C))) :: []
noncomputable def wide_times.Kl1 : List Item := .code (lopB (blkB (seqR (seqL (seqR (seqR (blkB (seqL (seqR (seqR (lopB (blkB (seqR (seqL (seqR (seqR wide_times.C)))))))))))))))) :: .inLoop (lopB (blkB (seqR (seqL (seqR (seqR (blkB (seqL (seqR (seqR (lopB (blkB (seqR (seqL (seqR (seqR wide_times.C)))))))))))))))) :: .inBlock 2 :: .code (seqR (seqR (seqR (blkB (seqL (seqR (seqR (lopB (blkB (seqR (seqL (seqR (seqR wide_times.C))))))))))))) :: .inBlock 1 :: .code (seqR (seqR (seqR (lopB (blkB (seqR (seqL (seqR (seqR wide_times.C))))))))) :: .inLoop (lopB (blkB (seqR (seqL (seqR (seqR wide_times.C)))))) :: .inBlock 0 :: .code (seqR (seqR (seqR wide_times.C))) :: []
structure wide_times.OK (h : wide_times.Hs) : Prop where
 l0 : ∀ {H0 H : Hp} {L : Items} {r : (List Int)} {jk_ : Nat → Value} {b : List Int} {out : List Int} {t18 : List Int} {t19 : Int} {t20 : Int} {v_b : Value} {v_out : Value} {v_t18 : Value} {i_out : Item'} (_ : H0.le H) (_he : h.l0 b out t18 t19 t20 = some r) (_h_b : Src kU32 H L v_b b) (_h_out : Sl kU32 H 167 i_out v_out out) (_h_t18 : Src kU32 H L v_t18 t18), Wp Tryz.prog 145 67 wide_times.Kl0 (upd (upd (upd (upd (upd (upd jk_ 1 (v_b)) 4 (.slice none 0 0)) 5 (v_out)) 18 (v_t18)) 19 (.int .i64 t19)) 20 (.int .i64 t20)) H (i_out :: L) (wide_times.R H0 L r)
 l1 : ∀ {H0 H : Hp} {L : Items} {r : (List Int)} {jk_ : Nat → Value} {b : List Int} {out : List Int} {i : Int} {x : Int} {carry : Int} {t18 : List Int} {t19 : Int} {t20 : Int} {t25 : List Int} {t26 : Int} {t27 : Int} {v_b : Value} {v_out : Value} {v_t18 : Value} {v_t25 : Value} {i_out : Item'} (_ : H0.le H) (_he : h.l1 b out i x carry t18 t19 t20 t25 t26 t27 = some r) (_h_b : Src kU32 H L v_b b) (_h_out : Sl kU32 H 167 i_out v_out out) (_h_t18 : Src kU32 H L v_t18 t18) (_h_t25 : Src kU32 H L v_t25 t25), Wp Tryz.prog 145 67 wide_times.Kl1 (upd (upd (upd (upd (upd (upd (upd (upd (upd (upd (upd (upd jk_ 1 (v_b)) 4 (.slice none 0 0)) 5 (v_out)) 6 (.int .i64 i)) 7 (.int .u32 x)) 8 (.int .u64 carry)) 18 (v_t18)) 19 (.int .i64 t19)) 20 (.int .i64 t20)) 25 (v_t25)) 26 (.int .i64 t26)) 27 (.int .i64 t27)) H (i_out :: L) (wide_times.R H0 L r)
theorem wide_times.b0_ok {k : Nat} {h : wide_times.Hs} (hh : wide_times.OK h) {H0 H : Hp} {L : Items} {r : (List Int)} {jk_ : Nat → Value} {b : List Int} {out : List Int} {t18 : List Int} {t19 : Int} {t20 : Int} {v_b : Value} {v_out : Value} {v_t18 : Value} {i_out : Item'} (hle : H0.le H) (he : wide_times.b0 k h b out t18 t19 t20 = some r) (h_b : Src kU32 H L v_b b) (h_out : Sl kU32 H 167 i_out v_out out) (h_t18 : Src kU32 H L v_t18 t18) : Wp Tryz.prog 145 67 wide_times.Kl0 (upd (upd (upd (upd (upd (upd jk_ 1 (v_b)) 4 (.slice none 0 0)) 5 (v_out)) 18 (v_t18)) 19 (.int .i64 t19)) 20 (.int .i64 t20)) H (i_out :: L) (wide_times.R H0 L r) := by
 unfold wide_times.b0 at he
 unfold wide_times.Kl0
 refine wR rfl <| w_d rfl (d_lss rfl rfl) <| wE ?_
 rcases its he with ⟨c5, he⟩ | ⟨c5, he⟩
 ·
  refine w_then rfl (dt c5) <| w_skip <| w_seq <| w_block <| wR rfl <| wM (.int .i64 t20) rfl rfl ?_
  obtain ⟨c6, he⟩ := rq he
  refine w_d rfl (d_index (sz := 1) Tryz.underlying22 sz167 rfl h_t18.th rfl c6) <| w_d rfl (d_ldint ty167 rfl h_t18.th c6) <| wA (.int .i64 t20) rfl rfl <| wA (.int .u32 (rd t18 t20)) rfl rfl <| wQ rfl <| wA (.int .u64 0) rfl rfl <| wE <| wR rfl ?_
  refine wM v_b rfl rfl <| w_d rfl (d_len Tryz.underlying22 rfl h_b.th) <| wM (.int .i64 0) rfl rfl <| w_done <| w_block <| w_loop <| w_sl 1 (v_b) rfl <| w_sl 4 (.slice none 0 0) rfl <| w_sl 5 (v_out) rfl <| w_sl 6 (.int .i64 t20) rfl <| w_sl 7 (.int .u32 (rd t18 t20)) rfl <| w_sl 8 (.int .u64 0) rfl ?_
  refine w_sl 18 (v_t18) rfl <| w_sl 19 (.int .i64 t19) rfl <| w_sl 20 (.int .i64 t20) rfl <| w_sl 25 (v_b) rfl <| w_sl 26 (.int .i64 (b.length : Int)) rfl <| w_sl 27 (.int .i64 0) rfl <| hh.l1 hle he h_b h_out h_t18 h_b
 ·
  refine w_else rfl (df c5) <| w_exit rfl <| wR rfl <| wM v_out rfl rfl <| wA v_out rfl rfl <| w_done <| w_freeze h_out .here ?_
  intro H7 e8 h9
  obtain rfl := sj he
  refine w_return fn_145 rs_145 (.tmp (v := v_out) rfl .nil) <| ⟨⟨[_], rfl⟩, hle.trans e8, h9⟩
theorem wide_times.b1_ok {k : Nat} {h : wide_times.Hs} (hh : wide_times.OK h) {H0 H : Hp} {L : Items} {r : (List Int)} {jk_ : Nat → Value} {b : List Int} {out : List Int} {i : Int} {x : Int} {carry : Int} {t18 : List Int} {t19 : Int} {t20 : Int} {t25 : List Int} {t26 : Int} {t27 : Int} {v_b : Value} {v_out : Value} {v_t18 : Value} {v_t25 : Value} {i_out : Item'} (hle : H0.le H) (he : wide_times.b1 k h b out i x carry t18 t19 t20 t25 t26 t27 = some r) (h_b : Src kU32 H L v_b b) (h_out : Sl kU32 H 167 i_out v_out out) (h_t18 : Src kU32 H L v_t18 t18) (h_t25 : Src kU32 H L v_t25 t25) : Wp Tryz.prog 145 67 wide_times.Kl1 (upd (upd (upd (upd (upd (upd (upd (upd (upd (upd (upd (upd jk_ 1 (v_b)) 4 (.slice none 0 0)) 5 (v_out)) 6 (.int .i64 i)) 7 (.int .u32 x)) 8 (.int .u64 carry)) 18 (v_t18)) 19 (.int .i64 t19)) 20 (.int .i64 t20)) 25 (v_t25)) 26 (.int .i64 t26)) 27 (.int .i64 t27)) H (i_out :: L) (wide_times.R H0 L r) := by
 unfold wide_times.b1 at he
 unfold wide_times.Kl1
 refine wR rfl <| w_d rfl (d_lss rfl rfl) <| wE ?_
 rcases its he with ⟨c10, he⟩ | ⟨c10, he⟩
 ·
  refine w_then rfl (dt c10) <| w_skip <| w_seq <| w_block <| wR rfl <| wM (.int .i64 t27) rfl rfl ?_
  obtain ⟨c11, he⟩ := rq he
  refine w_d rfl (d_index (sz := 1) Tryz.underlying22 sz167 rfl h_t25.th rfl c11) <| w_d rfl (d_ldint ty167 rfl h_t25.th c11) <| wA (.int .i64 t27) rfl rfl <| wA (.int .u32 (rd t25 t27)) rfl rfl <| wQ rfl <| wM (.int .u32 x) rfl rfl <| w_d rfl (d_conv (c := (x) % 18446744073709551616) Tryz.underlying167 Tryz.underlying113 rfl rfl) <| wM (.int .u32 (rd t25 t27)) rfl rfl <| w_d rfl (d_conv (c := (rd t25 t27) % 18446744073709551616) Tryz.underlying167 Tryz.underlying113 rfl rfl) <| w_d rfl (d_mul (c := (((x) % 18446744073709551616) * ((rd t25 t27) % 18446744073709551616)) % 18446744073709551616) rfl rfl rfl) ?_
  refine wM v_out rfl rfl <| wM (.int .i64 i) rfl rfl <| wM (.int .i64 t27) rfl rfl <| w_d rfl (d_add (c := w64 (i + t27)) rfl rfl rfl) ?_
  obtain ⟨c12, he⟩ := rq he
  refine w_d rfl (d_indexS (sz := 1) Tryz.underlying22 sz167 rfl h_out.shp rfl c12) <| w_d rfl (d_ldint ty167 rfl (h_out.src .here) c12) <| w_d rfl (d_conv (c := (rd out (w64 (i + t27))) % 18446744073709551616) Tryz.underlying167 Tryz.underlying113 rfl rfl) <| w_d rfl (d_add (c := (((((x) % 18446744073709551616) * ((rd t25 t27) % 18446744073709551616)) % 18446744073709551616) + ((rd out (w64 (i + t27))) % 18446744073709551616)) % 18446744073709551616) rfl rfl rfl) <| wM (.int .u64 carry) rfl rfl <| w_d rfl (d_add (c := (((((((x) % 18446744073709551616) * ((rd t25 t27) % 18446744073709551616)) % 18446744073709551616) + ((rd out (w64 (i + t27))) % 18446744073709551616)) % 18446744073709551616) + carry) % 18446744073709551616) rfl rfl rfl) <| wA (.int .u64 ((((((((x) % 18446744073709551616) * ((rd t25 t27) % 18446744073709551616)) % 18446744073709551616) + ((rd out (w64 (i + t27))) % 18446744073709551616)) % 18446744073709551616) + carry) % 18446744073709551616)) rfl rfl <| wQ rfl <| wM v_out rfl rfl <| wM (.int .i64 i) rfl rfl ?_
  refine wM (.int .i64 t27) rfl rfl <| w_d rfl (d_add (c := w64 (i + t27)) rfl rfl rfl) <| wM (.int .u64 ((((((((x) % 18446744073709551616) * ((rd t25 t27) % 18446744073709551616)) % 18446744073709551616) + ((rd out (w64 (i + t27))) % 18446744073709551616)) % 18446744073709551616) + carry) % 18446744073709551616)) rfl rfl <| w_d rfl (d_conv (c := ((((((((x) % 18446744073709551616) * ((rd t25 t27) % 18446744073709551616)) % 18446744073709551616) + ((rd out (w64 (i + t27))) % 18446744073709551616)) % 18446744073709551616) + carry) % 18446744073709551616) % 4294967296) Tryz.underlying113 Tryz.underlying167 rfl rfl) ?_
  obtain ⟨c13, he⟩ := rq he
  refine w_d rfl (d_indexS (sz := 1) Tryz.underlying22 sz167 rfl h_out.shp rfl c13) <| w_a0 rfl (o_storeEl (kd := kU32) (v := .int .u32 (((((((((x) % 18446744073709551616) * ((rd t25 t27) % 18446744073709551616)) % 18446744073709551616) + ((rd out (w64 (i + t27))) % 18446744073709551616)) % 18446744073709551616) + carry) % 18446744073709551616) % 4294967296)) (F := fun z_ => z_ :: L) sz167 rfl rfl rfl rfl h_out c13 (fun _ => .here)) ?_
  rintro _ _ _ ⟨i14, rfl, rfl, rfl, h15⟩
  refine w_done <| w_region rfl <| wM (.int .u64 ((((((((x) % 18446744073709551616) * ((rd t25 t27) % 18446744073709551616)) % 18446744073709551616) + ((rd out (w64 (i + t27))) % 18446744073709551616)) % 18446744073709551616) + carry) % 18446744073709551616)) rfl rfl <| w_d rfl (d_shr (c := ((((((((x) % 18446744073709551616) * ((rd t25 t27) % 18446744073709551616)) % 18446744073709551616) + ((rd out (w64 (i + t27))) % 18446744073709551616)) % 18446744073709551616) + carry) % 18446744073709551616) / 4294967296) rfl rfl (by decide) rfl) <| wA (.int .u64 (((((((((x) % 18446744073709551616) * ((rd t25 t27) % 18446744073709551616)) % 18446744073709551616) + ((rd out (w64 (i + t27))) % 18446744073709551616)) % 18446744073709551616) + carry) % 18446744073709551616) / 4294967296)) rfl rfl <| w_done <| w_inBlock <| w_region rfl <| w_d rfl (d_add (c := w64 (t27 + 1)) rfl rfl rfl) <| wM (.int .i64 (w64 (t27 + 1))) rfl rfl <| w_done <| w_inLoop ?_
  refine w_sl 1 (v_b) rfl <| w_sl 4 (.slice none 0 0) rfl <| w_sl 5 (v_out) rfl <| w_sl 6 (.int .i64 i) rfl <| w_sl 7 (.int .u32 x) rfl <| w_sl 8 (.int .u64 (((((((((x) % 18446744073709551616) * ((rd t25 t27) % 18446744073709551616)) % 18446744073709551616) + ((rd out (w64 (i + t27))) % 18446744073709551616)) % 18446744073709551616) + carry) % 18446744073709551616) / 4294967296)) rfl <| w_sl 18 (v_t18) rfl <| w_sl 19 (.int .i64 t19) rfl <| w_sl 20 (.int .i64 t20) rfl <| w_sl 25 (v_t25) rfl <| w_sl 26 (.int .i64 t26) rfl <| w_sl 27 (.int .i64 (w64 (t27 + 1))) rfl <| hh.l1 hle he h_b h15 h_t18 h_t25
 ·
  refine w_else rfl (df c10) <| w_exit rfl <| w_region rfl <| wM v_out rfl rfl <| wM (.int .i64 i) rfl rfl <| wM v_b rfl rfl <| w_d rfl (d_len Tryz.underlying22 rfl h_b.th) <| w_d rfl (d_add (c := w64 (i + (b.length : Int))) rfl rfl rfl) <| wM (.int .u64 carry) rfl rfl <| w_d rfl (d_conv (c := (carry) % 4294967296) Tryz.underlying113 Tryz.underlying167 rfl rfl) ?_
  obtain ⟨c16, he⟩ := rq he
  refine w_d rfl (d_indexS (sz := 1) Tryz.underlying22 sz167 rfl h_out.shp rfl c16) <| w_a0 rfl (o_storeEl (kd := kU32) (v := .int .u32 ((carry) % 4294967296)) (F := fun z_ => z_ :: L) sz167 rfl rfl rfl rfl h_out c16 (fun _ => .here)) ?_
  rintro _ _ _ ⟨i17, rfl, rfl, rfl, h18⟩
  refine w_done <| w_inBlock <| w_region rfl <| w_d rfl (d_add (c := w64 (t20 + 1)) rfl rfl rfl) <| wM (.int .i64 (w64 (t20 + 1))) rfl rfl <| w_done <| w_inLoop <| w_sl 1 (v_b) rfl <| w_sl 4 (.slice none 0 0) rfl <| w_sl 5 (v_out) rfl <| w_sl 18 (v_t18) rfl <| w_sl 19 (.int .i64 t19) rfl ?_
  refine w_sl 20 (.int .i64 (w64 (t20 + 1))) rfl <| hh.l0 hle he h_b h18 h_t18
theorem wide_times.ok : ∀ k, wide_times.OK (wide_times.hs k)
 | 0 => ⟨(by intros; exact nomatch (show none = some _ from by assumption)), (by intros; exact nomatch (show none = some _ from by assumption))⟩
 | k + 1 => ⟨wide_times.b0_ok (k := k) (wide_times.ok k), wide_times.b1_ok (k := k) (wide_times.ok k)⟩
theorem wide_times.calls (k : Nat) {H : Hp} {L : Items} {a : List Int} {b : List Int} {v0_a : Value} {v1_b : Value} {r : (List Int)} (he : wide_times.f k a b = some r) (h0_a : Src kU32 H L v0_a a) (h1_b : Src kU32 H L v1_b b) : Ct Tryz.prog 145 ⟨[v0_a, v1_b]⟩ H L (cR H L (wide_times.out r)) := by
 refine ct_out (O := wide_times.out r) ?_
 have hle : H.le H := .refl _
 have hh := wide_times.ok k
 unfold wide_times.f at he
 refine ct_enter (args := [v0_a, v1_b]) fn_145 rfl nt_145 rfl <| wR rfl <| wA (.slice none 0 0) rfl rfl <| wQ rfl <| wM v0_a rfl rfl <| w_d rfl (d_len Tryz.underlying22 rfl h0_a) <| wM v1_b rfl rfl <| w_d rfl (d_len Tryz.underlying22 rfl h1_b) <| w_d rfl (d_add (c := w64 ((a.length : Int) + (b.length : Int))) rfl rfl rfl) ?_
 obtain ⟨c1, he⟩ := rq he
 refine w_a rfl (o_make' (kd := kU32) (z0 := 0) Tryz.underlying22 ti167 (zp167 _) rfl rfl (by omega) (by omega) (by omega)) ?_
 rintro v2 _ _ ⟨i3, rfl, rfl, h4⟩
 refine wA v2 rfl rfl <| wE <| wR rfl <| wM v0_a rfl rfl <| w_d rfl (d_len Tryz.underlying22 rfl h0_a.th) <| wM (.int .i64 0) rfl rfl <| w_done <| w_block <| w_loop <| w_sl 1 (v1_b) rfl ?_
 refine w_sl 4 (.slice none 0 0) rfl <| w_sl 5 (v2) rfl <| w_sl 18 (v0_a) rfl <| w_sl 19 (.int .i64 (a.length : Int)) rfl <| w_sl 20 (.int .i64 0) rfl <| hh.l0 hle he h1_b h4 h0_a
noncomputable def wide_trim.C : Code := (Tryz.f113.body).getD .skip
abbrev wide_trim.out (r : (List Int)) (H : Hp) (v : Value) : Prop := Ro kU32 H v r
abbrev wide_trim.R (H0 : Hp) (L : Items) (r : (List Int)) := fR H0 L (wide_trim.out r)
structure wide_trim.Hs where
 l0 : (List Int) → Option (List Int)
noncomputable def wide_trim.b0 (k : Nat) (h : wide_trim.Hs)  (w : List Int) : Option (List Int) := if (decide (0 < (w.length : Int))) = true → (0 : Int) ≤ w64 ((w.length : Int) - 1) ∧ w64 ((w.length : Int) - 1) < (w.length : Int) then (if ((decide (0 < (w.length : Int))) && (decide ((rd w (w64 ((w.length : Int) - 1))) = 0))) = true then (if (0 : Int) ≤ 0 ∧ (0 : Int) ≤ w64 ((w.length : Int) - 1) ∧ w64 ((w.length : Int) - 1) ≤ (w.length : Int) then (h.l0 (cut w 0 (w64 ((w.length : Int) - 1)))) else none) else (some (w))) else none
noncomputable def wide_trim.hs : Nat → wide_trim.Hs
 | 0 => ⟨fun _ => none⟩
 | k + 1 => ⟨fun x0 => wide_trim.b0 k (wide_trim.hs k) x0⟩
noncomputable def wide_trim.f (k : Nat) (w : List Int) : Option (List Int) := (fun h : wide_trim.Hs => h.l0 w) (wide_trim.hs k)
structure wide_trim.LE (h h' : wide_trim.Hs) : Prop where
 l0 : ∀ y0, LeO (h.l0 y0) (h'.l0 y0)
theorem wide_trim.b0_mono {k : Nat} {h h' : wide_trim.Hs} (hl : wide_trim.LE h h') : ∀ y0, LeO (wide_trim.b0 k h y0) (wide_trim.b0 (k + 1) h' y0) := fun _ => (LeO.ite (LeO.ite (LeO.ite (hl.l0 _) (LeO.refl _)) (LeO.refl _)) (LeO.refl _))
theorem wide_trim.hs_mono : ∀ k, wide_trim.LE (wide_trim.hs k) (wide_trim.hs (k + 1))
 | 0 => ⟨fun _ => LeO.none _⟩
 | k + 1 => ⟨wide_trim.b0_mono (k := k) (wide_trim.hs_mono k)⟩
theorem wide_trim.mono : ∀ k y0, LeO (wide_trim.f k y0) (wide_trim.f (k + 1) y0) := fun k _ => have hl := wide_trim.hs_mono k; by unfold wide_trim.f; exact (hl.l0 _)
noncomputable def wide_trim.Kl0 : List Item := .code (lopB (blkB (seqL (seqR wide_trim.C)))) :: .inLoop (lopB (blkB (seqL (seqR wide_trim.C)))) :: .inBlock 0 :: .code (seqR (seqR wide_trim.C)) :: []
structure wide_trim.OK (h : wide_trim.Hs) : Prop where
 l0 : ∀ {H0 H : Hp} {L : Items} {r : (List Int)} {jk_ : Nat → Value} {w : List Int} {v_w : Value} (_ : H0.le H) (_he : h.l0 w = some r) (_h_w : Ro kU32 H v_w w), Wp Tryz.prog 113 21 wide_trim.Kl0 (upd (upd jk_ 0 (v_w)) 2 (.slice none 0 0)) H (L) (wide_trim.R H0 L r)
theorem wide_trim.b0_ok {k : Nat} {h : wide_trim.Hs} (hh : wide_trim.OK h) {H0 H : Hp} {L : Items} {r : (List Int)} {jk_ : Nat → Value} {w : List Int} {v_w : Value} (hle : H0.le H) (he : wide_trim.b0 k h w = some r) (h_w : Ro kU32 H v_w w) : Wp Tryz.prog 113 21 wide_trim.Kl0 (upd (upd jk_ 0 (v_w)) 2 (.slice none 0 0)) H (L) (wide_trim.R H0 L r) := by
 unfold wide_trim.b0 at he
 unfold wide_trim.Kl0
 refine w_seq <| wR rfl <| wM v_w rfl rfl <| w_d rfl (d_len Tryz.underlying22 rfl h_w.src) <| w_d rfl (d_gtr rfl rfl) <| wM (.bool (decide (0 < (w.length : Int)))) rfl rfl <| w_g (g := decide (0 < (w.length : Int))) rfl rfl rfl wn_t (fun g1 => d_move (v := v_w) rfl) <| w_g (g := decide (0 < (w.length : Int))) rfl rfl rfl wn_t (fun g2 => d_move (v := v_w) rfl) <| w_g (g := decide (0 < (w.length : Int))) rfl rfl rfl wn_t (fun g3 => d_len Tryz.underlying22 (cvt g3) h_w.src) <| w_g (g := decide (0 < (w.length : Int))) rfl rfl rfl wn_t (fun g4 => d_sub (c := w64 ((w.length : Int) - 1)) (cvt g4) rfl rfl) ?_
 obtain ⟨c6, he⟩ := rq he
 refine w_g (g := decide (0 < (w.length : Int))) rfl rfl rfl wn_t (fun g5 => d_index (sz := 1) Tryz.underlying22 sz167 (cvt g5) h_w.src (cvt g5) (c6 g5)) <| w_g (g := decide (0 < (w.length : Int))) rfl rfl rfl wn_t (fun g7 => d_ldint ty167 (cvt g7) h_w.src (c6 g7)) <| w_g (g := decide (0 < (w.length : Int))) rfl rfl rfl wn_t (fun g8 => d_eql (cvt g8) rfl) <| w_d rfl (d_and' (b := (decide (0 < (w.length : Int)))) (p := (decide ((rd w (w64 ((w.length : Int) - 1))) = 0))) rfl rfl rfl) <| w_done ?_
 rcases its he with ⟨c9, he⟩ | ⟨c9, he⟩
 ·
  refine w_then rfl c9 <| w_skip <| w_block <| w_region rfl <| wM v_w rfl rfl <| wM v_w rfl rfl <| w_d rfl (d_len Tryz.underlying22 rfl h_w.src) <| w_d rfl (d_sub (c := w64 ((w.length : Int) - 1)) rfl rfl rfl) ?_
  obtain ⟨c10, he⟩ := rq he
  refine w_a rfl (o_cut (kd := kU32) Tryz.underlying22 sz167 rfl h_w (.inl ⟨rfl, rfl⟩) (.inr ⟨_, _, rfl, rfl⟩) c10) ?_
  rintro v11 _ _ ⟨h12, rfl, rfl⟩
  refine wA v11 rfl rfl <| w_done <| w_inBlock <| w_inLoop <| w_sl 0 (v11) rfl <| w_sl 2 (.slice none 0 0) rfl <| hh.l0 hle he h12
 ·
  refine w_else rfl (Bool.eq_false_iff.2 c9) <| w_exit rfl <| wR rfl <| wM v_w rfl rfl <| wA v_w rfl rfl <| w_done ?_
  obtain rfl := sj he
  refine w_return fn_113 rs_113 (.tmp (v := v_w) rfl .nil) <| ⟨⟨[], rfl⟩, hle, h_w⟩
theorem wide_trim.ok : ∀ k, wide_trim.OK (wide_trim.hs k)
 | 0 => ⟨(by intros; exact nomatch (show none = some _ from by assumption))⟩
 | k + 1 => ⟨wide_trim.b0_ok (k := k) (wide_trim.ok k)⟩
theorem wide_trim.calls (k : Nat) {H : Hp} {L : Items} {w : List Int} {v0_w : Value} {r : (List Int)} (he : wide_trim.f k w = some r) (h0_w : Ro kU32 H v0_w w) : Ct Tryz.prog 113 ⟨[v0_w]⟩ H L (cR H L (wide_trim.out r)) := by
 refine ct_out (O := wide_trim.out r) ?_
 have hle : H.le H := .refl _
 have hh := wide_trim.ok k
 unfold wide_trim.f at he
 refine ct_enter (args := [v0_w]) fn_113 rfl nt_113 rfl <| wR rfl <| wA (.slice none 0 0) rfl rfl <| wE <| w_block <| w_loop <| w_sl 0 (v0_w) rfl <| w_sl 2 (.slice none 0 0) rfl <| hh.l0 hle he h0_w
noncomputable def wide_plus.C : Code := (Tryz.f144.body).getD .skip
abbrev wide_plus.out (r : (List Int)) (H : Hp) (v : Value) : Prop := Ro kU32 H v r
abbrev wide_plus.R (H0 : Hp) (L : Items) (r : (List Int)) := fR H0 L (wide_plus.out r)
structure wide_plus.Hs where
 l0 : (List Int) → (List Int) → Int → (List Int) → Int → Int → Option (List Int)
noncomputable def wide_plus.j1 (k : Nat) (h : wide_plus.Hs)  (a : List Int) (b : List Int) : Option (List Int) := if 0 ≤ 0 ∧ 0 ≤ w64 ((a.length : Int) + 1) ∧ w64 ((a.length : Int) + 1) ≤ 70368744177664 then (h.l0 b (List.replicate (0 : Int).toNat (0 : Int)) 0 a (a.length : Int) 0) else none
noncomputable def wide_plus.j3 (k : Nat) (h : wide_plus.Hs)  (b : List Int) (out : List Int) (carry : Int) (s : Int) (t21 : List Int) (t22 : Int) (t23 : Int) : Option (List Int) := if out.length + 1 ≤ 35184372088704 then (h.l0 b (out ++ [(s) % 4294967296]) (s / 4294967296) t21 t22 (w64 (t23 + 1))) else none
noncomputable def wide_plus.b0 (k : Nat) (h : wide_plus.Hs)  (b : List Int) (out : List Int) (carry : Int) (t21 : List Int) (t22 : Int) (t23 : Int) : Option (List Int) := if t23 < t22 then (if (0 : Int) ≤ t23 ∧ t23 < (t21.length : Int) then (if t23 < (b.length : Int) then (if (0 : Int) ≤ t23 ∧ t23 < (b.length : Int) then (wide_plus.j3 k h b out carry ((((((rd t21 t23) % 18446744073709551616) + carry) % 18446744073709551616) + ((rd b t23) % 18446744073709551616)) % 18446744073709551616) t21 t22 t23) else none) else (wide_plus.j3 k h b out carry ((((rd t21 t23) % 18446744073709551616) + carry) % 18446744073709551616) t21 t22 t23)) else none) else (if out.length + 1 ≤ 35184372088704 then (some (out ++ [(carry) % 4294967296])) else none)
noncomputable def wide_plus.hs : Nat → wide_plus.Hs
 | 0 => ⟨fun _ _ _ _ _ _ => none⟩
 | k + 1 => ⟨fun x0 x1 x2 x3 x4 x5 => wide_plus.b0 k (wide_plus.hs k) x0 x1 x2 x3 x4 x5⟩
noncomputable def wide_plus.f (k : Nat) (a : List Int) (b : List Int) : Option (List Int) := (fun h : wide_plus.Hs => if (a.length : Int) < (b.length : Int) then (wide_plus.j1 k h b a) else (wide_plus.j1 k h a b)) (wide_plus.hs k)
structure wide_plus.LE (h h' : wide_plus.Hs) : Prop where
 l0 : ∀ y0 y1 y2 y3 y4 y5, LeO (h.l0 y0 y1 y2 y3 y4 y5) (h'.l0 y0 y1 y2 y3 y4 y5)
theorem wide_plus.j1_mono {k : Nat} {h h' : wide_plus.Hs} (hl : wide_plus.LE h h') : ∀ y0 y1, LeO (wide_plus.j1 k h y0 y1) (wide_plus.j1 (k + 1) h' y0 y1) := fun _ _ => (LeO.ite (hl.l0 _ _ _ _ _ _) (LeO.refl _))
theorem wide_plus.j3_mono {k : Nat} {h h' : wide_plus.Hs} (hl : wide_plus.LE h h') : ∀ y0 y1 y2 y3 y4 y5 y6, LeO (wide_plus.j3 k h y0 y1 y2 y3 y4 y5 y6) (wide_plus.j3 (k + 1) h' y0 y1 y2 y3 y4 y5 y6) := fun _ _ _ _ _ _ _ => (LeO.ite (hl.l0 _ _ _ _ _ _) (LeO.refl _))
theorem wide_plus.b0_mono {k : Nat} {h h' : wide_plus.Hs} (hl : wide_plus.LE h h') : ∀ y0 y1 y2 y3 y4 y5, LeO (wide_plus.b0 k h y0 y1 y2 y3 y4 y5) (wide_plus.b0 (k + 1) h' y0 y1 y2 y3 y4 y5) := fun _ _ _ _ _ _ => (LeO.ite (LeO.ite (LeO.ite (LeO.ite (wide_plus.j3_mono (k := k) hl _ _ _ _ _ _ _) (LeO.refl _)) (wide_plus.j3_mono (k := k) hl _ _ _ _ _ _ _)) (LeO.refl _)) (LeO.ite (LeO.refl _) (LeO.refl _)))
theorem wide_plus.hs_mono : ∀ k, wide_plus.LE (wide_plus.hs k) (wide_plus.hs (k + 1))
 | 0 => ⟨fun _ _ _ _ _ _ => LeO.none _⟩
 | k + 1 => ⟨wide_plus.b0_mono (k := k) (wide_plus.hs_mono k)⟩
theorem wide_plus.mono : ∀ k y0 y1, LeO (wide_plus.f k y0 y1) (wide_plus.f (k + 1) y0 y1) := fun k _ _ => have hl := wide_plus.hs_mono k; by unfold wide_plus.f; exact (LeO.ite (wide_plus.j1_mono (k := k) hl _ _) (wide_plus.j1_mono (k := k) hl _ _))
noncomputable def wide_plus.Kj1 : List Item := .code (seqR (seqR wide_plus.C)) :: []
noncomputable def wide_plus.Kl0 : List Item := .code (lopB (blkB (seqR (seqL (seqR (seqR (seqR (seqR wide_plus.C)))))))) :: .inLoop (lopB (blkB (seqR (seqL (seqR (seqR (seqR (seqR wide_plus.C)))))))) :: .inBlock 0 :: .code (seqR (seqR (seqR (seqR (seqR wide_plus.C))))) :: []
noncomputable def wide_plus.Kj3 : List Item := .code (seqR (seqR (seqR (blkB (seqL (seqR (seqR (lopB (blkB (seqR (seqL (seqR (seqR (seqR (seqR wide_plus.C))))))))))))))) :: .inBlock 1 :: .code (seqR (seqR (seqR (lopB (blkB (seqR (seqL (seqR (seqR (seqR (seqR wide_plus.C))))))))))) :: .inLoop (lopB (blkB (seqR (seqL (seqR (seqR (seqR (seqR wide_plus.C)))))))) :: .inBlock 0 :: .code (seqR (seqR (seqR (seqR (seqR wide_plus.C))))) :: []
structure wide_plus.OK (h : wide_plus.Hs) : Prop where
 l0 : ∀ {H0 H : Hp} {L : Items} {r : (List Int)} {jk_ : Nat → Value} {b : List Int} {out : List Int} {carry : Int} {t21 : List Int} {t22 : Int} {t23 : Int} {v_b : Value} {v_out : Value} {v_t21 : Value} {i_out : Item'} (_ : H0.le H) (_he : h.l0 b out carry t21 t22 t23 = some r) (_h_b : Src kU32 H L v_b b) (_h_out : Sl kU32 H 167 i_out v_out out) (_h_t21 : Src kU32 H L v_t21 t21), Wp Tryz.prog 144 56 wide_plus.Kl0 (upd (upd (upd (upd (upd (upd (upd jk_ 1 (v_b)) 4 (.slice none 0 0)) 5 (v_out)) 6 (.int .u64 carry)) 21 (v_t21)) 22 (.int .i64 t22)) 23 (.int .i64 t23)) H (i_out :: L) (wide_plus.R H0 L r)
theorem wide_plus.j1_ok {k : Nat} {h : wide_plus.Hs} (hh : wide_plus.OK h) {H0 H : Hp} {L : Items} {r : (List Int)} {jk_ : Nat → Value} {a : List Int} {b : List Int} {v_a : Value} {v_b : Value} (hle : H0.le H) (he : wide_plus.j1 k h a b = some r) (h_a : Src kU32 H L v_a a) (h_b : Src kU32 H L v_b b) : Wp Tryz.prog 144 56 wide_plus.Kj1 (upd (upd (upd jk_ 0 (v_a)) 1 (v_b)) 4 (.slice none 0 0)) H (L) (wide_plus.R H0 L r) := by
 unfold wide_plus.j1 at he
 unfold wide_plus.Kj1
 refine wR rfl <| wM v_a rfl rfl <| w_d rfl (d_len Tryz.underlying22 rfl h_a) <| w_d rfl (d_add (c := w64 ((a.length : Int) + 1)) rfl rfl rfl) ?_
 obtain ⟨c2, he⟩ := rq he
 refine w_a rfl (o_make' (kd := kU32) (z0 := 0) Tryz.underlying22 ti167 (zp167 _) rfl rfl (by omega) (by omega) (by omega)) ?_
 rintro v3 _ _ ⟨i4, rfl, rfl, h5⟩
 refine wA v3 rfl rfl <| wQ rfl <| wA (.int .u64 0) rfl rfl <| wE <| wR rfl <| wM v_a rfl rfl <| w_d rfl (d_len Tryz.underlying22 rfl h_a.th) <| wM (.int .i64 0) rfl rfl ?_
 refine w_done <| w_block <| w_loop <| w_sl 1 (v_b) rfl <| w_sl 4 (.slice none 0 0) rfl <| w_sl 5 (v3) rfl <| w_sl 6 (.int .u64 0) rfl <| w_sl 21 (v_a) rfl <| w_sl 22 (.int .i64 (a.length : Int)) rfl <| w_sl 23 (.int .i64 0) rfl <| hh.l0 hle he h_b h5 h_a
theorem wide_plus.j3_ok {k : Nat} {h : wide_plus.Hs} (hh : wide_plus.OK h) {H0 H : Hp} {L : Items} {r : (List Int)} {jk_ : Nat → Value} {b : List Int} {out : List Int} {carry : Int} {s : Int} {t21 : List Int} {t22 : Int} {t23 : Int} {v_b : Value} {v_out : Value} {v_t21 : Value} {i_out : Item'} (hle : H0.le H) (he : wide_plus.j3 k h b out carry s t21 t22 t23 = some r) (h_b : Src kU32 H L v_b b) (h_out : Sl kU32 H 167 i_out v_out out) (h_t21 : Src kU32 H L v_t21 t21) : Wp Tryz.prog 144 56 wide_plus.Kj3 (upd (upd (upd (upd (upd (upd (upd (upd jk_ 1 (v_b)) 4 (.slice none 0 0)) 5 (v_out)) 6 (.int .u64 carry)) 9 (.int .u64 s)) 21 (v_t21)) 22 (.int .i64 t22)) 23 (.int .i64 t23)) H (i_out :: L) (wide_plus.R H0 L r) := by
 unfold wide_plus.j3 at he
 unfold wide_plus.Kj3
 refine wR rfl <| wM v_out rfl rfl <| wM (.int .u64 s) rfl rfl <| w_d rfl (d_conv (c := (s) % 4294967296) Tryz.underlying113 Tryz.underlying167 rfl rfl) <| w_a rfl (o_buildSlice' (kd := kU32) (css := [[.int .u32 ((s) % 4294967296)]]) (xs := [(s) % 4294967296]) (parts := [(0, .int .u32 ((s) % 4294967296))]) Tryz.underlying22 ti167 rfl ⟨_, _, rfl, rfl, rfl⟩ ⟨rfl, trivial⟩ rfl (by decide)) ?_
 rintro v20 _ _ ⟨i21, rfl, rfl, h22⟩
 obtain ⟨c23, he⟩ := rq he
 refine w_a rfl (o_append' (kd := kU32) (F := fun z_ => i21 :: z_ :: L) Tryz.underlying22 Tryz.underlying22 ti167 rfl (by first | omega | (simp only [List.nil_append, List.length_cons, List.length_nil]; omega)) rfl rfl h_out (h22.src .here) (fun _ => (.there .here))) ?_
 rintro v24 _ _ ⟨i25, rfl, rfl, h26⟩
 refine wA v24 rfl rfl <| w_done <| w_region rfl <| wM (.int .u64 s) rfl rfl <| w_d rfl (d_shr (c := s / 4294967296) rfl rfl (by decide) rfl) <| wA (.int .u64 (s / 4294967296)) rfl rfl <| w_done <| w_inBlock <| w_region rfl <| w_d rfl (d_add (c := w64 (t23 + 1)) rfl rfl rfl) <| wM (.int .i64 (w64 (t23 + 1))) rfl rfl <| w_done ?_
 refine w_inLoop <| w_del .here <| w_sl 1 (v_b) rfl <| w_sl 4 (.slice none 0 0) rfl <| w_sl 5 (v24) rfl <| w_sl 6 (.int .u64 (s / 4294967296)) rfl <| w_sl 21 (v_t21) rfl <| w_sl 22 (.int .i64 t22) rfl <| w_sl 23 (.int .i64 (w64 (t23 + 1))) rfl <| hh.l0 hle he h_b h26 h_t21
theorem wide_plus.b0_ok {k : Nat} {h : wide_plus.Hs} (hh : wide_plus.OK h) {H0 H : Hp} {L : Items} {r : (List Int)} {jk_ : Nat → Value} {b : List Int} {out : List Int} {carry : Int} {t21 : List Int} {t22 : Int} {t23 : Int} {v_b : Value} {v_out : Value} {v_t21 : Value} {i_out : Item'} (hle : H0.le H) (he : wide_plus.b0 k h b out carry t21 t22 t23 = some r) (h_b : Src kU32 H L v_b b) (h_out : Sl kU32 H 167 i_out v_out out) (h_t21 : Src kU32 H L v_t21 t21) : Wp Tryz.prog 144 56 wide_plus.Kl0 (upd (upd (upd (upd (upd (upd (upd jk_ 1 (v_b)) 4 (.slice none 0 0)) 5 (v_out)) 6 (.int .u64 carry)) 21 (v_t21)) 22 (.int .i64 t22)) 23 (.int .i64 t23)) H (i_out :: L) (wide_plus.R H0 L r) := by
 unfold wide_plus.b0 at he
 unfold wide_plus.Kl0
 refine wR rfl <| w_d rfl (d_lss rfl rfl) <| wE ?_
 rcases its he with ⟨c6, he⟩ | ⟨c6, he⟩
 ·
  refine w_then rfl (dt c6) <| w_skip <| w_seq <| w_block <| wR rfl <| wM (.int .i64 t23) rfl rfl ?_
  obtain ⟨c7, he⟩ := rq he
  refine w_d rfl (d_index (sz := 1) Tryz.underlying22 sz167 rfl h_t21.th rfl c7) <| w_d rfl (d_ldint ty167 rfl h_t21.th c7) <| wA (.int .i64 t23) rfl rfl <| wA (.int .u32 (rd t21 t23)) rfl rfl <| wQ rfl <| wM (.int .u32 (rd t21 t23)) rfl rfl <| w_d rfl (d_conv (c := (rd t21 t23) % 18446744073709551616) Tryz.underlying167 Tryz.underlying113 rfl rfl) <| wM (.int .u64 carry) rfl rfl <| w_d rfl (d_add (c := (((rd t21 t23) % 18446744073709551616) + carry) % 18446744073709551616) rfl rfl rfl) <| wA (.int .u64 ((((rd t21 t23) % 18446744073709551616) + carry) % 18446744073709551616)) rfl rfl ?_
  refine wE <| wR rfl <| wM (.int .i64 t23) rfl rfl <| wM v_b rfl rfl <| w_d rfl (d_len Tryz.underlying22 rfl h_b.th) <| w_d rfl (d_lss rfl rfl) <| w_done ?_
  rcases its he with ⟨c8, he⟩ | ⟨c8, he⟩
  ·
   refine w_then rfl (dt c8) <| w_region rfl <| wM (.int .u64 ((((rd t21 t23) % 18446744073709551616) + carry) % 18446744073709551616)) rfl rfl <| wM v_b rfl rfl <| wM (.int .i64 t23) rfl rfl ?_
   obtain ⟨c9, he⟩ := rq he
   refine w_d rfl (d_index (sz := 1) Tryz.underlying22 sz167 rfl h_b.th rfl c9) <| w_d rfl (d_ldint ty167 rfl h_b.th c9) <| w_d rfl (d_conv (c := (rd b t23) % 18446744073709551616) Tryz.underlying167 Tryz.underlying113 rfl rfl) <| w_d rfl (d_add (c := (((((rd t21 t23) % 18446744073709551616) + carry) % 18446744073709551616) + ((rd b t23) % 18446744073709551616)) % 18446744073709551616) rfl rfl rfl) <| wA (.int .u64 ((((((rd t21 t23) % 18446744073709551616) + carry) % 18446744073709551616) + ((rd b t23) % 18446744073709551616)) % 18446744073709551616)) rfl rfl <| w_done <| w_sl 1 (v_b) rfl <| w_sl 4 (.slice none 0 0) rfl <| w_sl 5 (v_out) rfl <| w_sl 6 (.int .u64 carry) rfl <| w_sl 9 (.int .u64 ((((((rd t21 t23) % 18446744073709551616) + carry) % 18446744073709551616) + ((rd b t23) % 18446744073709551616)) % 18446744073709551616)) rfl <| w_sl 21 (v_t21) rfl ?_
   refine w_sl 22 (.int .i64 t22) rfl <| w_sl 23 (.int .i64 t23) rfl <| wide_plus.j3_ok (k := k) hh hle he h_b h_out h_t21
  ·
   refine w_else rfl (df c8) <| w_skip <| w_sl 1 (v_b) rfl <| w_sl 4 (.slice none 0 0) rfl <| w_sl 5 (v_out) rfl <| w_sl 6 (.int .u64 carry) rfl <| w_sl 9 (.int .u64 ((((rd t21 t23) % 18446744073709551616) + carry) % 18446744073709551616)) rfl <| w_sl 21 (v_t21) rfl <| w_sl 22 (.int .i64 t22) rfl <| w_sl 23 (.int .i64 t23) rfl <| wide_plus.j3_ok (k := k) hh hle he h_b h_out h_t21
 ·
  refine w_else rfl (df c6) <| w_exit rfl <| wR rfl <| wM v_out rfl rfl <| wM (.int .u64 carry) rfl rfl <| w_d rfl (d_conv (c := (carry) % 4294967296) Tryz.underlying113 Tryz.underlying167 rfl rfl) <| w_a rfl (o_buildSlice' (kd := kU32) (css := [[.int .u32 ((carry) % 4294967296)]]) (xs := [(carry) % 4294967296]) (parts := [(0, .int .u32 ((carry) % 4294967296))]) Tryz.underlying22 ti167 rfl ⟨_, _, rfl, rfl, rfl⟩ ⟨rfl, trivial⟩ rfl (by decide)) ?_
  rintro v10 _ _ ⟨i11, rfl, rfl, h12⟩
  obtain ⟨c13, he⟩ := rq he
  refine w_a rfl (o_append' (kd := kU32) (F := fun z_ => i11 :: z_ :: L) Tryz.underlying22 Tryz.underlying22 ti167 rfl (by first | omega | (simp only [List.nil_append, List.length_cons, List.length_nil]; omega)) rfl rfl h_out (h12.src .here) (fun _ => (.there .here))) ?_
  rintro v14 _ _ ⟨i15, rfl, rfl, h16⟩
  refine wA v14 rfl rfl <| w_done <| w_freeze h16 (.there .here) ?_
  intro H17 e18 h19
  obtain rfl := sj he
  refine w_return fn_144 rs_144 (.tmp (v := v14) rfl .nil) <| ⟨⟨[_, _], rfl⟩, hle.trans e18, h19⟩
theorem wide_plus.ok : ∀ k, wide_plus.OK (wide_plus.hs k)
 | 0 => ⟨(by intros; exact nomatch (show none = some _ from by assumption))⟩
 | k + 1 => ⟨wide_plus.b0_ok (k := k) (wide_plus.ok k)⟩
theorem wide_plus.calls (k : Nat) {H : Hp} {L : Items} {a : List Int} {b : List Int} {v0_a : Value} {v1_b : Value} {r : (List Int)} (he : wide_plus.f k a b = some r) (h0_a : Src kU32 H L v0_a a) (h1_b : Src kU32 H L v1_b b) : Ct Tryz.prog 144 ⟨[v0_a, v1_b]⟩ H L (cR H L (wide_plus.out r)) := by
 refine ct_out (O := wide_plus.out r) ?_
 have hle : H.le H := .refl _
 have hh := wide_plus.ok k
 unfold wide_plus.f at he
 refine ct_enter (args := [v0_a, v1_b]) fn_144 rfl nt_144 rfl <| wR rfl <| wA (.slice none 0 0) rfl rfl <| wE <| wR rfl <| wM v0_a rfl rfl <| w_d rfl (d_len Tryz.underlying22 rfl h0_a) <| wM v1_b rfl rfl <| w_d rfl (d_len Tryz.underlying22 rfl h1_b) ?_
 refine w_d rfl (d_lss rfl rfl) <| w_done ?_
 rcases its he with ⟨c1, he⟩ | ⟨c1, he⟩
 ·
  refine w_then rfl (dt c1) <| w_region rfl <| wM v1_b rfl rfl <| wM v0_a rfl rfl <| wA v1_b rfl rfl <| wA v0_a rfl rfl <| w_done <| w_sl 0 (v1_b) rfl <| w_sl 1 (v0_a) rfl <| w_sl 4 (.slice none 0 0) rfl <| wide_plus.j1_ok (k := k) hh hle he h1_b h0_a
 ·
  refine w_else rfl (df c1) <| w_skip <| w_sl 0 (v0_a) rfl <| w_sl 1 (v1_b) rfl <| w_sl 4 (.slice none 0 0) rfl <| wide_plus.j1_ok (k := k) hh hle he h0_a h1_b
noncomputable def wide_made.C : Code := (Tryz.f115.body).getD .skip
def wide_made.out (r : wide_Int × (Option Int)) (H : Hp) (v : Value) : Prop := ∃ v0, v = .tuple ⟨[.agg ⟨[.bool r.1.f_neg, v0]⟩, errV 104 r.2]⟩ ∧ Ro kU32 H v0 r.1.f_w
theorem wide_made.out_mono (r : wide_Int × (Option Int)) {H H' : Hp} {v : Value} (hle : H.le H') (h : wide_made.out r H v) : wide_made.out r H' v := by
 obtain ⟨v0, rfl, h0⟩ := h; exact ⟨v0, rfl, h0.mono hle⟩
noncomputable def wide_made.f (k : Nat) (neg : Bool) (w : List Int) : Option (wide_Int × (Option Int)) := (wide_trim.f k w).bind fun y2 => if 128 < (y2.length : Int) then (some ((⟨false, []⟩ : wide_Int), some 12)) else (some ((⟨neg && (decide (0 < (y2.length : Int))), y2⟩ : wide_Int), none))
theorem wide_made.mono : ∀ k y0 y1, LeO (wide_made.f k y0 y1) (wide_made.f (k + 1) y0 y1) := fun k _ _ => by unfold wide_made.f; exact (LeO.bind (wide_trim.mono k _) fun _ => LeO.ite (LeO.refl _) (LeO.refl _))
theorem wide_made.calls (k : Nat) {H : Hp} {L : Items} {neg : Bool} {w : List Int} {v0_w : Value} {r : wide_Int × (Option Int)} (he : wide_made.f k neg w = some r) (h0_w : Ro kU32 H v0_w w) : Ct Tryz.prog 115 ⟨[.bool neg, v0_w]⟩ H L (cR H L (wide_made.out r)) := by
 refine ct_out (O := wide_made.out r) ?_
 have hle : H.le H := .refl _
 unfold wide_made.f at he
 refine ct_enter (args := [.bool neg, v0_w]) fn_115 rfl nt_115 rfl <| wR rfl <| w_a rfl (o_alloc zr24 rfl) ?_
 rintro _ _ _ ⟨b1, rfl, rfl, rfl⟩
 refine wA (errV 104 none) rfl rfl <| wQ rfl <| wM v0_w rfl rfl ?_
 obtain ⟨y2, hy3, he⟩ := bs he
 refine w_a rfl (o_call co113 (vs := [v0_w]) rfl (wide_trim.calls k hy3 h0_w)) ?_
 rintro v6 H4 _ ⟨rfl, e5, h7⟩
 refine wA v6 rfl rfl <| wE <| wR rfl <| wM v6 rfl rfl <| w_d rfl (d_len Tryz.underlying22 rfl h7.src) <| w_d rfl (d_gtr rfl rfl) <| w_done ?_
 rcases its he with ⟨c8, he⟩ | ⟨c8, he⟩
 ·
  refine w_then rfl (dt c8) <| wR rfl <| w_d rfl (d_build (cs' := [.bool false, .slice none 0 0]) Tryz.underlying24 zr24 rfl (by kernel_rfl) (parts := []) rfl .nil) <| w_d rfl (d_iface (v := .int .i64 12) Tryz.underlying104 rfl rfl) <| w_a0 rfl (o_store (v := .agg ⟨[.bool false, .slice none 0 0]⟩) sz24 rfl rfl rfl rfl (oc rfl (oc rfl oz)) .here u2) ?_
  rintro _ _ _ ⟨rfl, rfl, rfl⟩
  refine wA (errV 104 (some 12)) rfl rfl <| w_done ?_
  obtain rfl := sj he
  refine w_return fn_115 rs_115 (.box (v := .agg ⟨[.bool false, .slice none 0 0]⟩) rfl ty24 rfl rfl .here rfl (.tmp (v := errV 104 (some 12)) rfl .nil)) <| ⟨⟨[_], rfl⟩, hle.trans e5, ⟨.slice none 0 0, rfl, (ro_nil _ _)⟩⟩
 ·
  refine w_else rfl (df c8) <| w_skip <| wR rfl <| wM (.bool neg) rfl rfl <| wM (.bool neg) rfl rfl <| w_g (g := neg) rfl rfl rfl wn_t (fun g9 => d_move (v := v6) rfl) <| w_g (g := neg) rfl rfl rfl wn_t (fun g10 => d_len Tryz.underlying22 (cvt g10) h7.src) <| w_g (g := neg) rfl rfl rfl wn_t (fun g11 => d_gtr (cvt g11) rfl) <| w_d rfl (d_and' (b := neg) (p := (decide (0 < (y2.length : Int)))) rfl rfl rfl) <| wM v6 rfl rfl <| w_d rfl (d_build (cs' := [.bool (neg && (decide (0 < (y2.length : Int)))), v6]) Tryz.underlying24 zr24 rfl (by kernel_rfl) (parts := [(0, .bool (neg && (decide (0 < (y2.length : Int))))), (1, v6)]) rfl (.cons (place_of rfl sz4 rfl) rfl rfl u1 (.cons (place_of rfl sz22 rfl) h7.cells rfl (.there u1) .nil))) ?_
  refine w_a0 rfl (o_store (v := .agg ⟨[.bool (neg && (decide (0 < (y2.length : Int)))), v6]⟩) sz24 rfl rfl rfl rfl (oc rfl (oc (h7.one) oz)) .here u2) ?_
  rintro _ _ _ ⟨rfl, rfl, rfl⟩
  refine wA (errV 104 none) rfl rfl <| w_done ?_
  obtain rfl := sj he
  refine w_return fn_115 rs_115 (.box (v := .agg ⟨[.bool (neg && (decide (0 < (y2.length : Int)))), v6]⟩) rfl ty24 rfl rfl .here rfl (.tmp (v := errV 104 none) rfl .nil)) <| ⟨⟨[_], rfl⟩, hle.trans e5, ⟨v6, rfl, h7⟩⟩
noncomputable def wide_Parse.C : Code := (Tryz.f134.body).getD .skip
def wide_Parse.out (r : wide_Int × (Option Int)) (H : Hp) (v : Value) : Prop := ∃ v0, v = .tuple ⟨[.agg ⟨[.bool r.1.f_neg, v0]⟩, errV 104 r.2]⟩ ∧ Ro kU32 H v0 r.1.f_w
theorem wide_Parse.out_mono (r : wide_Int × (Option Int)) {H H' : Hp} {v : Value} (hle : H.le H') (h : wide_Parse.out r H v) : wide_Parse.out r H' v := by
 obtain ⟨v0, rfl, h0⟩ := h; exact ⟨v0, rfl, h0.mono hle⟩
abbrev wide_Parse.R (H0 : Hp) (L : Items) (r : wide_Int × (Option Int)) := fR H0 L (wide_Parse.out r)
structure wide_Parse.Hs where
 l0 : Bool → (List Int) → (List Int) → Int → Int → Option (wide_Int × (Option Int))
noncomputable def wide_Parse.j1 (k : Nat) (h : wide_Parse.Hs)  (t : ByteArray) (neg : Bool) : Option (wide_Int × (Option Int)) := (wide_digits.f k t).bind fun y8 => if ((!y8) || (neg && (decide (t = str_2)))) = true then (some ((⟨false, []⟩ : wide_Int), some 3)) else (h.l0 neg [] (bytesOf t) ((bytesOf t).length : Int) 0)
noncomputable def wide_Parse.b0 (k : Nat) (h : wide_Parse.Hs)  (neg : Bool) (w : List Int) (t34 : List Int) (t35 : Int) (t36 : Int) : Option (wide_Int × (Option Int)) := if t36 < t35 then (if (0 : Int) ≤ t36 ∧ t36 < (t34.length : Int) then ((wide_times.f k w [10]).bind fun y27 => (wide_trim.f k [(((rd t34 t36) - 48) % 256) % 4294967296]).bind fun y39 => (wide_plus.f k y27 y39).bind fun y45 => (wide_trim.f k y45).bind fun y51 => h.l0 neg y51 t34 t35 (w64 (t36 + 1))) else none) else ((wide_made.f k neg w).bind fun y57 => some (y57.1, y57.2))
noncomputable def wide_Parse.hs : Nat → wide_Parse.Hs
 | 0 => ⟨fun _ _ _ _ _ => none⟩
 | k + 1 => ⟨fun x0 x1 x2 x3 x4 => wide_Parse.b0 k (wide_Parse.hs k) x0 x1 x2 x3 x4⟩
noncomputable def wide_Parse.f (k : Nat) (s : ByteArray) : Option (wide_Int × (Option Int)) := (fun h : wide_Parse.Hs => if (decide (1 < (s.size : Int))) = true → (0 : Int) ≤ 0 ∧ 0 < (s.size : Int) then (if ((decide (1 < (s.size : Int))) && (decide ((bt s 0) = 45))) = true then (if (0 : Int) ≤ 1 ∧ (1 : Int) ≤ (s.size : Int) ∧ (s.size : Int) ≤ (s.size : Int) then (wide_Parse.j1 k h (scut s 1 (s.size : Int)) ((decide (1 < (s.size : Int))) && (decide ((bt s 0) = 45)))) else none) else (wide_Parse.j1 k h s ((decide (1 < (s.size : Int))) && (decide ((bt s 0) = 45))))) else none) (wide_Parse.hs k)
noncomputable def wide_Parse.Kj1 : List Item := .code (seqR (seqR (seqR (seqR wide_Parse.C)))) :: []
noncomputable def wide_Parse.Kl0 : List Item := .code (lopB (blkB (seqR (seqL (seqR (seqR (seqR (seqR (seqR (seqR wide_Parse.C)))))))))) :: .inLoop (lopB (blkB (seqR (seqL (seqR (seqR (seqR (seqR (seqR (seqR wide_Parse.C)))))))))) :: .inBlock 0 :: .code (seqR (seqR (seqR (seqR (seqR (seqR (seqR wide_Parse.C))))))) :: []
structure wide_Parse.OK (h : wide_Parse.Hs) : Prop where
 l0 : ∀ {H0 H : Hp} {L : Items} {r : wide_Int × (Option Int)} {jk_ : Nat → Value} {neg : Bool} {w : List Int} {t34 : List Int} {t35 : Int} {t36 : Int} {v_w : Value} {v_t34 : Value} {b_t2 : Nat} (_ : H0.le H) (_he : h.l0 neg w t34 t35 t36 = some r) (_h_w : Ro kU32 H v_w w) (_h_t34 : Ro kU8 H v_t34 t34), Wp Tryz.prog 134 56 wide_Parse.Kl0 (upd (upd (upd (upd (upd (upd (upd jk_ 2 (.pointer (some ⟨b_t2, 0, none⟩))) 3 (errV 104 none)) 5 (.bool neg)) 6 (v_w)) 34 (v_t34)) 35 (.int .i64 t35)) 36 (.int .i64 t36)) H (some (b_t2, .cells ⟨[.bool false, .slice none 0 0]⟩ 24 (0, 0)) :: L) (wide_Parse.R H0 L r)
theorem wide_Parse.j1_ok {k : Nat} {h : wide_Parse.Hs} (hh : wide_Parse.OK h) {H0 H : Hp} {L : Items} {r : wide_Int × (Option Int)} {jk_ : Nat → Value} {t : ByteArray} {neg : Bool} {b_t2 : Nat} (hle : H0.le H) (he : wide_Parse.j1 k h t neg = some r) : Wp Tryz.prog 134 56 wide_Parse.Kj1 (upd (upd (upd (upd jk_ 2 (.pointer (some ⟨b_t2, 0, none⟩))) 3 (errV 104 none)) 4 (.string t)) 5 (.bool neg)) H (some (b_t2, .cells ⟨[.bool false, .slice none 0 0]⟩ 24 (0, 0)) :: L) (wide_Parse.R H0 L r) := by
 unfold wide_Parse.j1 at he
 unfold wide_Parse.Kj1
 refine w_seq <| wR rfl <| wM (.string t) rfl rfl ?_
 obtain ⟨y8, hy9, he⟩ := bs he
 refine w_d rfl (call_d (o_call co147 (vs := [.string t]) rfl (wide_digits.calls k hy9))) <| w_d rfl (d_not (b := y8) rfl) <| wM (.bool (!y8)) rfl rfl <| w_g (g := !(!y8)) rfl rfl rfl wn_f (fun g12 => d_move (v := .bool neg) rfl) <| w_g (g := !(!y8)) rfl rfl rfl wn_f (fun g13 => d_move (v := .bool neg) (cvt g13)) <| w_g (g := (!(!y8)) && neg) rfl rfl rfl wn_gt (fun g14 => d_move (v := .string t) rfl) <| w_g (g := (!(!y8)) && neg) rfl rfl rfl wn_gt (fun g15 => d_eqs (cvt g15) rfl) <| w_g (g := !(!y8)) rfl rfl rfl wn_f (fun g16 => d_and' (b := neg) (p := (decide (t = str_2))) (cvt g16) (cva g16) rfl) <| w_d rfl (d_or' (b := (!y8)) (p := (neg && (decide (t = str_2)))) rfl rfl rfl) <| w_done ?_
 rcases its he with ⟨c17, he⟩ | ⟨c17, he⟩
 ·
  refine w_then rfl c17 <| wR rfl <| w_d rfl (d_build (cs' := [.bool false, .slice none 0 0]) Tryz.underlying24 zr24 rfl (by kernel_rfl) (parts := []) rfl .nil) <| w_d rfl (d_iface (v := .int .i64 3) Tryz.underlying104 rfl rfl) <| w_a0 rfl (o_store (v := .agg ⟨[.bool false, .slice none 0 0]⟩) sz24 rfl rfl rfl rfl (oc rfl (oc rfl oz)) .here u2) ?_
  rintro _ _ _ ⟨rfl, rfl, rfl⟩
  refine wA (errV 104 (some 3)) rfl rfl <| w_done ?_
  obtain rfl := sj he
  refine w_return fn_134 rs_134 (.box (v := .agg ⟨[.bool false, .slice none 0 0]⟩) rfl ty24 rfl rfl .here rfl (.tmp (v := errV 104 (some 3)) rfl .nil)) <| ⟨⟨[_], rfl⟩, hle, ⟨.slice none 0 0, rfl, (ro_nil _ _)⟩⟩
 ·
  refine w_else rfl (Bool.eq_false_iff.2 c17) <| w_skip <| wR rfl <| wA (.slice none 0 0) rfl rfl <| wE <| wR rfl <| wM (.string t) rfl rfl <| w_a rfl (o_bytes Tryz.underlying9 Tryz.underlying52 Tryz.underlying5 rfl) ?_
  rintro v18 H19 _ ⟨rfl, e20, h21⟩
  refine w_d rfl (d_len Tryz.underlying52 rfl h21.src) <| wM (.int .i64 0) rfl rfl <| w_done <| w_block <| w_loop <| w_sl 2 (.pointer (some ⟨b_t2, 0, none⟩)) rfl <| w_sl 3 (errV 104 none) rfl <| w_sl 5 (.bool neg) rfl <| w_sl 6 (.slice none 0 0) rfl <| w_sl 34 (v18) rfl <| w_sl 35 (.int .i64 ((bytesOf t).length : Int)) rfl <| w_sl 36 (.int .i64 0) rfl <| hh.l0 (hle.trans e20) he (ro_nil _ _) h21
theorem wide_Parse.b0_ok {k : Nat} {h : wide_Parse.Hs} (hh : wide_Parse.OK h) {H0 H : Hp} {L : Items} {r : wide_Int × (Option Int)} {jk_ : Nat → Value} {neg : Bool} {w : List Int} {t34 : List Int} {t35 : Int} {t36 : Int} {v_w : Value} {v_t34 : Value} {b_t2 : Nat} (hle : H0.le H) (he : wide_Parse.b0 k h neg w t34 t35 t36 = some r) (h_w : Ro kU32 H v_w w) (h_t34 : Ro kU8 H v_t34 t34) : Wp Tryz.prog 134 56 wide_Parse.Kl0 (upd (upd (upd (upd (upd (upd (upd jk_ 2 (.pointer (some ⟨b_t2, 0, none⟩))) 3 (errV 104 none)) 5 (.bool neg)) 6 (v_w)) 34 (v_t34)) 35 (.int .i64 t35)) 36 (.int .i64 t36)) H (some (b_t2, .cells ⟨[.bool false, .slice none 0 0]⟩ 24 (0, 0)) :: L) (wide_Parse.R H0 L r) := by
 unfold wide_Parse.b0 at he
 unfold wide_Parse.Kl0
 refine wR rfl <| w_d rfl (d_lss rfl rfl) <| wE ?_
 rcases its he with ⟨c22, he⟩ | ⟨c22, he⟩
 ·
  refine w_then rfl (dt c22) <| w_skip <| w_seq <| w_block <| wR rfl ?_
  obtain ⟨c23, he⟩ := rq he
  refine w_d rfl (d_index (sz := 1) Tryz.underlying52 sz5 rfl h_t34.src rfl c23) <| w_d rfl (d_ldint ty5 rfl h_t34.src c23) <| wA (.int .u8 (rd t34 t36)) rfl rfl <| w_done <| w_region rfl <| wM v_w rfl rfl <| w_a rfl (o_buildSlice' (kd := kU32) (css := [[.int .u32 10]]) (xs := [10]) (parts := [(0, .int .u32 10)]) Tryz.underlying22 ti167 rfl ⟨_, _, rfl, rfl, rfl⟩ ⟨rfl, trivial⟩ rfl (by decide)) ?_
  rintro v24 _ _ ⟨i25, rfl, rfl, h26⟩
  obtain ⟨y27, hy28, he⟩ := bs he
  refine w_a rfl (o_call co145 (vs := [v_w, v24]) rfl (wide_times.calls k hy28 h_w.src (h26.src .here))) ?_
  rintro v31 H29 _ ⟨rfl, e30, h32⟩
  refine wM (.int .u8 (rd t34 t36)) rfl rfl <| w_d rfl (d_sub (c := ((rd t34 t36) - 48) % 256) rfl rfl rfl) <| w_d rfl (d_conv (c := (((rd t34 t36) - 48) % 256) % 4294967296) Tryz.underlying5 Tryz.underlying167 rfl rfl) <| w_a rfl (o_buildSlice' (kd := kU32) (css := [[.int .u32 ((((rd t34 t36) - 48) % 256) % 4294967296)]]) (xs := [(((rd t34 t36) - 48) % 256) % 4294967296]) (parts := [(0, .int .u32 ((((rd t34 t36) - 48) % 256) % 4294967296))]) Tryz.underlying22 ti167 rfl ⟨_, _, rfl, rfl, rfl⟩ ⟨rfl, trivial⟩ rfl (by decide)) ?_
  rintro v33 _ _ ⟨i34, rfl, rfl, h35⟩
  refine w_freeze h35 .here ?_
  intro H36 e37 h38
  obtain ⟨y39, hy40, he⟩ := bs he
  refine w_a rfl (o_call co113 (vs := [v33]) rfl (wide_trim.calls k hy40 h38)) ?_
  rintro v43 H41 _ ⟨rfl, e42, h44⟩
  obtain ⟨y45, hy46, he⟩ := bs he
  refine w_a rfl (o_call co144 (vs := [v31, v43]) rfl (wide_plus.calls k hy46 ((h32.mono (e37.trans e42)).src) h44.src)) ?_
  rintro v49 H47 _ ⟨rfl, e48, h50⟩
  obtain ⟨y51, hy52, he⟩ := bs he
  refine w_a rfl (o_call co113 (vs := [v49]) rfl (wide_trim.calls k hy52 h50)) ?_
  rintro v55 H53 _ ⟨rfl, e54, h56⟩
  refine wA v55 rfl rfl <| w_done <| w_inBlock <| w_region rfl <| w_d rfl (d_add (c := w64 (t36 + 1)) rfl rfl rfl) <| wM (.int .i64 (w64 (t36 + 1))) rfl rfl <| w_done <| w_inLoop <| w_del (.there .here) <| w_del .here <| w_sl 2 (.pointer (some ⟨b_t2, 0, none⟩)) rfl <| w_sl 3 (errV 104 none) rfl ?_
  refine w_sl 5 (.bool neg) rfl <| w_sl 6 (v55) rfl <| w_sl 34 (v_t34) rfl <| w_sl 35 (.int .i64 t35) rfl <| w_sl 36 (.int .i64 (w64 (t36 + 1))) rfl <| hh.l0 (hle.trans ((((e30.trans e37).trans e42).trans e48).trans e54)) he h56 (h_t34.mono ((((e30.trans e37).trans e42).trans e48).trans e54))
 ·
  refine w_else rfl (df c22) <| w_exit rfl <| wR rfl <| wM (.bool neg) rfl rfl <| wM v_w rfl rfl ?_
  obtain ⟨y57, hy58, he⟩ := bs he
  refine w_a rfl (o_call co115 (vs := [.bool neg, v_w]) rfl (wide_made.calls k hy58 h_w)) ?_
  rintro _ H59 _ ⟨rfl, e60, ⟨v61, rfl, h62⟩⟩
  refine w_d rfl (d_ext (vs := [.agg ⟨[.bool y57.1.f_neg, v61]⟩, errV 104 y57.2]) rfl rfl) <| w_d rfl (d_ext (vs := [.agg ⟨[.bool y57.1.f_neg, v61]⟩, errV 104 y57.2]) rfl rfl) <| w_a0 rfl (o_store (v := .agg ⟨[.bool y57.1.f_neg, v61]⟩) sz24 rfl rfl rfl rfl (oc rfl (oc (h62.one) oz)) .here u2) ?_
  rintro _ _ _ ⟨rfl, rfl, rfl⟩
  refine wA (errV 104 y57.2) rfl rfl <| w_done ?_
  obtain rfl := sj he
  refine w_return fn_134 rs_134 (.box (v := .agg ⟨[.bool y57.1.f_neg, v61]⟩) rfl ty24 rfl rfl .here rfl (.tmp (v := errV 104 y57.2) rfl .nil)) <| ⟨⟨[_], rfl⟩, hle.trans e60, ⟨v61, rfl, h62⟩⟩
theorem wide_Parse.ok : ∀ k, wide_Parse.OK (wide_Parse.hs k)
 | 0 => ⟨(by intros; exact nomatch (show none = some _ from by assumption))⟩
 | k + 1 => ⟨wide_Parse.b0_ok (k := k) (wide_Parse.ok k)⟩
theorem wide_Parse.calls (k : Nat) {H : Hp} {L : Items} {s : ByteArray} {r : wide_Int × (Option Int)} (he : wide_Parse.f k s = some r) : Ct Tryz.prog 134 ⟨[.string s]⟩ H L (cR H L (wide_Parse.out r)) := by
 refine ct_out (O := wide_Parse.out r) ?_
 have hle : H.le H := .refl _
 have hh := wide_Parse.ok k
 unfold wide_Parse.f at he
 refine ct_enter (args := [.string s]) fn_134 rfl nt_134 rfl <| wR rfl <| w_a rfl (o_alloc zr24 rfl) ?_
 rintro _ _ _ ⟨b1, rfl, rfl, rfl⟩
 refine wA (errV 104 none) rfl rfl <| wQ rfl <| wM (.string s) rfl rfl <| wA (.string s) rfl rfl <| wQ rfl <| wM (.string s) rfl rfl <| w_d rfl (d_lens Tryz.underlying9 rfl) <| w_d rfl (d_gtr rfl rfl) ?_
 refine wM (.bool (decide (1 < (s.size : Int)))) rfl rfl <| w_g (g := decide (1 < (s.size : Int))) rfl rfl rfl wn_t (fun g2 => d_move (v := .string s) rfl) ?_
 obtain ⟨c4, he⟩ := rq he
 refine w_g (g := decide (1 < (s.size : Int))) rfl rfl rfl wn_t (fun g3 => d_bt Tryz.underlying9 (cvt g3) rfl (c4 g3)) <| w_g (g := decide (1 < (s.size : Int))) rfl rfl rfl wn_t (fun g5 => d_eql (cvt g5) rfl) <| w_d rfl (d_and' (b := (decide (1 < (s.size : Int)))) (p := (decide ((bt s 0) = 45))) rfl rfl rfl) <| wA (.bool ((decide (1 < (s.size : Int))) && (decide ((bt s 0) = 45)))) rfl rfl <| wE <| wR rfl <| wM (.bool ((decide (1 < (s.size : Int))) && (decide ((bt s 0) = 45)))) rfl rfl <| w_done ?_
 rcases its he with ⟨c6, he⟩ | ⟨c6, he⟩
 ·
  refine w_then rfl c6 <| w_region rfl <| wM (.string s) rfl rfl ?_
  obtain ⟨c7, he⟩ := rq he
  refine w_d rfl (d_scut Tryz.underlying9 rfl (.inr ⟨_, _, rfl, rfl⟩) (.inl ⟨rfl, rfl⟩) c7) <| wA (.string (scut s 1 (s.size : Int))) rfl rfl <| w_done <| w_sl 2 (.pointer (some ⟨b1, 0, none⟩)) rfl <| w_sl 3 (errV 104 none) rfl <| w_sl 4 (.string (scut s 1 (s.size : Int))) rfl <| w_sl 5 (.bool ((decide (1 < (s.size : Int))) && (decide ((bt s 0) = 45)))) rfl <| wide_Parse.j1_ok (k := k) hh hle he
 ·
  refine w_else rfl (Bool.eq_false_iff.2 c6) <| w_skip <| w_sl 2 (.pointer (some ⟨b1, 0, none⟩)) rfl <| w_sl 3 (errV 104 none) rfl <| w_sl 4 (.string s) rfl <| w_sl 5 (.bool ((decide (1 < (s.size : Int))) && (decide ((bt s 0) = 45)))) rfl <| wide_Parse.j1_ok (k := k) hh hle he
noncomputable def radomelaw34_giveInt.C : Code := (Tryz.f125.body).getD .skip
def radomelaw34_giveInt.out (r : wide_Int) (H : Hp) (v : Value) : Prop := ∃ v0, v = .agg ⟨[.bool r.f_neg, v0]⟩ ∧ Ro kU32 H v0 r.f_w
theorem radomelaw34_giveInt.out_mono (r : wide_Int) {H H' : Hp} {v : Value} (hle : H.le H') (h : radomelaw34_giveInt.out r H v) : radomelaw34_giveInt.out r H' v := by
 obtain ⟨v0, rfl, h0⟩ := h; exact ⟨v0, rfl, h0.mono hle⟩
noncomputable def radomelaw34_giveInt.f (k : Nat) (a : radomeref01_Num) : Option wide_Int := (radomeref01_Text.f k a).bind fun y3 => (wide_Parse.f k y3).bind fun y7 => some (y7.1)
theorem radomelaw34_giveInt.calls (k : Nat) {H : Hp} {L : Items} {a : radomeref01_Num} {v0_a : Value} {r : wide_Int} (he : radomelaw34_giveInt.f k a = some r) (h0_a : Ro kI64 H v0_a a.f_D) : Ct Tryz.prog 125 ⟨[.agg ⟨[.bool a.f_Neg, v0_a]⟩]⟩ H L (cR H L (radomelaw34_giveInt.out r)) := by
 refine ct_out (O := radomelaw34_giveInt.out r) ?_
 have hle : H.le H := .refl _
 unfold radomelaw34_giveInt.f at he
 refine ct_enter (args := [.agg ⟨[.bool a.f_Neg, v0_a]⟩]) fn_125 rfl nt_125 rfl <| wR rfl <| w_a rfl (o_box (v := .agg ⟨[.bool a.f_Neg, v0_a]⟩) rfl rfl) ?_
 rintro _ _ _ ⟨b1, rfl, rfl, rfl⟩
 refine w_a rfl (o_alloc zr24 rfl) ?_
 rintro _ _ _ ⟨b2, rfl, rfl, rfl⟩
 refine wQ rfl <| wL (.agg ⟨[.bool a.f_Neg, v0_a]⟩) ty37 rfl rfl (.there .here) rfl rfl ?_
 obtain ⟨y3, hy4, he⟩ := bs he
 refine w_d rfl (call_d (o_call co99 (vs := [.agg ⟨[.bool a.f_Neg, v0_a]⟩]) rfl (radomeref01_Text.calls k (a := a) hy4 h0_a))) ?_
 obtain ⟨y7, hy8, he⟩ := bs he
 refine w_a rfl (o_call co134 (vs := [.string y3]) rfl (wide_Parse.calls k hy8)) ?_
 rintro _ H9 _ ⟨rfl, e10, ⟨v11, rfl, h12⟩⟩
 refine wM (.tuple ⟨[.agg ⟨[.bool y7.1.f_neg, v11]⟩, errV 104 y7.2]⟩) rfl rfl <| w_d rfl (d_ext (vs := [.agg ⟨[.bool y7.1.f_neg, v11]⟩, errV 104 y7.2]) rfl rfl) <| w_d rfl (d_ext (vs := [.agg ⟨[.bool y7.1.f_neg, v11]⟩, errV 104 y7.2]) rfl rfl) <| w_a rfl (o_alloc zr24 rfl) ?_
 rintro _ _ _ ⟨b13, rfl, rfl, rfl⟩
 refine w_a0 rfl (o_store (v := .agg ⟨[.bool y7.1.f_neg, v11]⟩) sz24 rfl rfl rfl rfl (oc rfl (oc (h12.one) oz)) .here u2) ?_
 rintro _ _ _ ⟨rfl, rfl, rfl⟩
 refine wA (errV 104 y7.2) rfl rfl <| wQ rfl <| wL (.agg ⟨[.bool y7.1.f_neg, v11]⟩) ty24 rfl rfl .here rfl rfl <| w_a0 rfl (o_store (v := .agg ⟨[.bool y7.1.f_neg, v11]⟩) sz24 rfl rfl rfl rfl (oc rfl (oc (h12.one) oz)) (.there .here) u2) ?_
 rintro _ _ _ ⟨rfl, rfl, rfl⟩
 refine w_done ?_
 obtain rfl := sj he
 refine w_return fn_125 rs_125 (.box (v := .agg ⟨[.bool y7.1.f_neg, v11]⟩) rfl ty24 rfl rfl (.there .here) rfl .nil) <| ⟨⟨[_, _, _], rfl⟩, hle.trans e10, ⟨v11, rfl, h12⟩⟩
noncomputable def wide_Int_Sign.C : Code := (Tryz.f84.body).getD .skip
def wide_Int_Sign.out (r : Int) (H : Hp) (v : Value) : Prop := v = .int .i64 r
noncomputable def wide_Int_Sign.f (k : Nat) (a : wide_Int) : Option Int := if (a.f_w.length : Int) = 0 then (some (0)) else (if a.f_neg = true then (some ((-1))) else (some (1)))
theorem wide_Int_Sign.mono : ∀ k y0, LeO (wide_Int_Sign.f k y0) (wide_Int_Sign.f (k + 1) y0) := fun k _ => by unfold wide_Int_Sign.f; exact (LeO.ite (LeO.refl _) (LeO.ite (LeO.refl _) (LeO.refl _)))
theorem wide_Int_Sign.calls (k : Nat) {H : Hp} {L : Items} {a : wide_Int} {v0_a : Value} {r : Int} (he : wide_Int_Sign.f k a = some r) (h0_a : Ro kU32 H v0_a a.f_w) : Ct Tryz.prog 84 ⟨[.agg ⟨[.bool a.f_neg, v0_a]⟩]⟩ H L (fun v H' L' => L = L' ∧ H = H' ∧ v = .int .i64 r) := by
 refine ct_outs (O := wide_Int_Sign.out r) (fun _ _ h => h) ?_
 have hle : H.le H := .refl _
 unfold wide_Int_Sign.f at he
 refine ct_enter (args := [.agg ⟨[.bool a.f_neg, v0_a]⟩]) fn_84 rfl nt_84 rfl <| wR rfl <| w_a rfl (o_box (v := .agg ⟨[.bool a.f_neg, v0_a]⟩) rfl rfl) ?_
 rintro _ _ _ ⟨b1, rfl, rfl, rfl⟩
 refine wA (.int .i64 0) rfl rfl <| wE <| w_block <| wR rfl <| w_d rfl (d_fld (o' := 1) Tryz.underlying24 rfl sz22 rfl rfl rfl) <| wL v0_a ty22 rfl rfl .here rfl rfl <| w_d rfl (d_len Tryz.underlying22 rfl h0_a.src) <| w_d rfl (d_eql rfl rfl) <| wA (.bool (decide ((a.f_w.length : Int) = 0))) rfl rfl <| w_done ?_
 rcases its he with ⟨c2, he⟩ | ⟨c2, he⟩
 ·
  refine w_then rfl (dt c2) <| wR rfl <| wA (.int .i64 0) rfl rfl <| w_done ?_
  obtain rfl := sj he
  refine w_return fn_84 rs_84 (.tmp (v := .int .i64 0) rfl .nil) <| ⟨⟨[_], rfl⟩, hle, rfl⟩
 ·
  refine w_else rfl (df c2) <| wR rfl <| w_d rfl (d_fld (o' := 0) Tryz.underlying24 rfl sz4 rfl rfl rfl) <| wL (.bool a.f_neg) ty4 rfl rfl .here rfl rfl <| wA (.bool a.f_neg) rfl rfl <| w_done ?_
  rcases its he with ⟨c3, he⟩ | ⟨c3, he⟩
  ·
   refine w_then rfl c3 <| wR rfl <| wA (.int .i64 (-1)) rfl rfl <| w_done ?_
   obtain rfl := sj he
   refine w_return fn_84 rs_84 (.tmp (v := .int .i64 (-1)) rfl .nil) <| ⟨⟨[_], rfl⟩, hle, rfl⟩
  ·
   refine w_else rfl (Bool.eq_false_iff.2 c3) <| w_skip <| w_inBlock <| wR rfl <| wA (.int .i64 1) rfl rfl <| w_done ?_
   obtain rfl := sj he
   refine w_return fn_84 rs_84 (.tmp (v := .int .i64 1) rfl .nil) <| ⟨⟨[_], rfl⟩, hle, rfl⟩
noncomputable def wide_Int_Neg.C : Code := (Tryz.f121.body).getD .skip
def wide_Int_Neg.out (r : wide_Int) (H : Hp) (v : Value) : Prop := ∃ v0, v = .agg ⟨[.bool r.f_neg, v0]⟩ ∧ Ro kU32 H v0 r.f_w
theorem wide_Int_Neg.out_mono (r : wide_Int) {H H' : Hp} {v : Value} (hle : H.le H') (h : wide_Int_Neg.out r H v) : wide_Int_Neg.out r H' v := by
 obtain ⟨v0, rfl, h0⟩ := h; exact ⟨v0, rfl, h0.mono hle⟩
noncomputable def wide_Int_Neg.f (k : Nat) (a : wide_Int) : Option wide_Int := some ((⟨(!a.f_neg) && (decide (0 < (a.f_w.length : Int))), a.f_w⟩ : wide_Int))
theorem wide_Int_Neg.mono : ∀ k y0, LeO (wide_Int_Neg.f k y0) (wide_Int_Neg.f (k + 1) y0) := fun k _ => by unfold wide_Int_Neg.f; exact (LeO.refl _)
theorem wide_Int_Neg.calls (k : Nat) {H : Hp} {L : Items} {a : wide_Int} {v0_a : Value} {r : wide_Int} (he : wide_Int_Neg.f k a = some r) (h0_a : Ro kU32 H v0_a a.f_w) : Ct Tryz.prog 121 ⟨[.agg ⟨[.bool a.f_neg, v0_a]⟩]⟩ H L (cR H L (wide_Int_Neg.out r)) := by
 refine ct_out (O := wide_Int_Neg.out r) ?_
 have hle : H.le H := .refl _
 unfold wide_Int_Neg.f at he
 refine ct_enter (args := [.agg ⟨[.bool a.f_neg, v0_a]⟩]) fn_121 rfl nt_121 rfl <| wR rfl <| w_a rfl (o_box (v := .agg ⟨[.bool a.f_neg, v0_a]⟩) rfl rfl) ?_
 rintro _ _ _ ⟨b1, rfl, rfl, rfl⟩
 refine w_a rfl (o_alloc zr24 rfl) ?_
 rintro _ _ _ ⟨b2, rfl, rfl, rfl⟩
 refine wQ rfl <| w_d rfl (d_fld (o' := 0) Tryz.underlying24 rfl sz4 rfl rfl rfl) <| wL (.bool a.f_neg) ty4 rfl rfl (.there .here) rfl rfl <| w_d rfl (d_not (b := a.f_neg) rfl) <| wM (.bool (!a.f_neg)) rfl rfl <| w_g (g := !a.f_neg) rfl rfl rfl wn_t (fun g3 => d_fld (o' := 1) Tryz.underlying24 rfl sz22 rfl rfl rfl) <| w_g (g := !a.f_neg) rfl rfl rfl wn_t (fun g4 => d_loado (v := v0_a) ty22 (cvt g4) (.there .here) rfl rfl rfl rfl) <| w_g (g := !a.f_neg) rfl rfl rfl wn_t (fun g5 => d_len Tryz.underlying22 (cvt g5) h0_a.src) <| w_g (g := !a.f_neg) rfl rfl rfl wn_t (fun g6 => d_gtr (cvt g6) rfl) <| w_d rfl (d_and' (b := (!a.f_neg)) (p := (decide (0 < (a.f_w.length : Int)))) rfl rfl rfl) ?_
 refine w_d rfl (d_fld (o' := 1) Tryz.underlying24 rfl sz22 rfl rfl rfl) <| wL v0_a ty22 rfl rfl (.there .here) rfl rfl <| w_d rfl (d_build (cs' := [.bool ((!a.f_neg) && (decide (0 < (a.f_w.length : Int)))), v0_a]) Tryz.underlying24 zr24 rfl (by kernel_rfl) (parts := [(0, .bool ((!a.f_neg) && (decide (0 < (a.f_w.length : Int))))), (1, v0_a)]) rfl (.cons (place_of rfl sz4 rfl) rfl rfl u1 (.cons (place_of rfl sz22 rfl) h0_a.cells rfl (.there u1) .nil))) <| w_a0 rfl (o_store (v := .agg ⟨[.bool ((!a.f_neg) && (decide (0 < (a.f_w.length : Int)))), v0_a]⟩) sz24 rfl rfl rfl rfl (oc rfl (oc (h0_a.one) oz)) .here u2) ?_
 rintro _ _ _ ⟨rfl, rfl, rfl⟩
 refine w_done ?_
 obtain rfl := sj he
 refine w_return fn_121 rs_121 (.box (v := .agg ⟨[.bool ((!a.f_neg) && (decide (0 < (a.f_w.length : Int)))), v0_a]⟩) rfl ty24 rfl rfl .here rfl .nil) <| ⟨⟨[_, _], rfl⟩, hle, ⟨v0_a, rfl, h0_a⟩⟩
noncomputable def ratio_abs.C : Code := (Tryz.f123.body).getD .skip
def ratio_abs.out (r : wide_Int) (H : Hp) (v : Value) : Prop := ∃ v0, v = .agg ⟨[.bool r.f_neg, v0]⟩ ∧ Ro kU32 H v0 r.f_w
theorem ratio_abs.out_mono (r : wide_Int) {H H' : Hp} {v : Value} (hle : H.le H') (h : ratio_abs.out r H v) : ratio_abs.out r H' v := by
 obtain ⟨v0, rfl, h0⟩ := h; exact ⟨v0, rfl, h0.mono hle⟩
noncomputable def ratio_abs.f (k : Nat) (a : wide_Int) : Option wide_Int := (wide_Int_Sign.f k a).bind fun y3 => if y3 < 0 then ((wide_Int_Neg.f k a).bind fun y8 => some (y8)) else (some (a))
theorem ratio_abs.mono : ∀ k y0, LeO (ratio_abs.f k y0) (ratio_abs.f (k + 1) y0) := fun k _ => by unfold ratio_abs.f; exact (LeO.bind (wide_Int_Sign.mono k _) fun _ => LeO.ite (LeO.bind (wide_Int_Neg.mono k _) fun _ => LeO.refl _) (LeO.refl _))
theorem ratio_abs.calls (k : Nat) {H : Hp} {L : Items} {a : wide_Int} {v0_a : Value} {r : wide_Int} (he : ratio_abs.f k a = some r) (h0_a : Ro kU32 H v0_a a.f_w) : Ct Tryz.prog 123 ⟨[.agg ⟨[.bool a.f_neg, v0_a]⟩]⟩ H L (cR H L (ratio_abs.out r)) := by
 refine ct_out (O := ratio_abs.out r) ?_
 have hle : H.le H := .refl _
 unfold ratio_abs.f at he
 refine ct_enter (args := [.agg ⟨[.bool a.f_neg, v0_a]⟩]) fn_123 rfl nt_123 rfl <| wR rfl <| w_a rfl (o_box (v := .agg ⟨[.bool a.f_neg, v0_a]⟩) rfl rfl) ?_
 rintro _ _ _ ⟨b1, rfl, rfl, rfl⟩
 refine w_a rfl (o_alloc zr24 rfl) ?_
 rintro _ _ _ ⟨b2, rfl, rfl, rfl⟩
 refine wE <| wR rfl <| wL (.agg ⟨[.bool a.f_neg, v0_a]⟩) ty24 rfl rfl (.there .here) rfl rfl ?_
 obtain ⟨y3, hy4, he⟩ := bs he
 refine w_d rfl (call_d (o_call co84 (vs := [.agg ⟨[.bool a.f_neg, v0_a]⟩]) rfl (wide_Int_Sign.calls k (a := a) hy4 h0_a))) <| w_d rfl (d_lss rfl rfl) <| w_done ?_
 rcases its he with ⟨c7, he⟩ | ⟨c7, he⟩
 ·
  refine w_then rfl (dt c7) <| wR rfl <| wL (.agg ⟨[.bool a.f_neg, v0_a]⟩) ty24 rfl rfl (.there .here) rfl rfl ?_
  obtain ⟨y8, hy9, he⟩ := bs he
  refine w_a rfl (o_call co121 (vs := [.agg ⟨[.bool a.f_neg, v0_a]⟩]) rfl (wide_Int_Neg.calls k (a := a) hy9 h0_a)) ?_
  rintro _ H10 _ ⟨rfl, e11, ⟨v12, rfl, h13⟩⟩
  refine w_a0 rfl (o_store (v := .agg ⟨[.bool y8.f_neg, v12]⟩) sz24 rfl rfl rfl rfl (oc rfl (oc (h13.one) oz)) .here u2) ?_
  rintro _ _ _ ⟨rfl, rfl, rfl⟩
  refine w_done ?_
  obtain rfl := sj he
  refine w_return fn_123 rs_123 (.box (v := .agg ⟨[.bool y8.f_neg, v12]⟩) rfl ty24 rfl rfl .here rfl .nil) <| ⟨⟨[_, _], rfl⟩, hle.trans e11, ⟨v12, rfl, h13⟩⟩
 ·
  refine w_else rfl (df c7) <| w_skip <| wR rfl <| wL (.agg ⟨[.bool a.f_neg, v0_a]⟩) ty24 rfl rfl (.there .here) rfl rfl <| w_a0 rfl (o_store (v := .agg ⟨[.bool a.f_neg, v0_a]⟩) sz24 rfl rfl rfl rfl (oc rfl (oc (h0_a.one) oz)) .here u2) ?_
  rintro _ _ _ ⟨rfl, rfl, rfl⟩
  refine w_done ?_
  obtain rfl := sj he
  refine w_return fn_123 rs_123 (.box (v := .agg ⟨[.bool a.f_neg, v0_a]⟩) rfl ty24 rfl rfl .here rfl .nil) <| ⟨⟨[_, _], rfl⟩, hle, ⟨v0_a, rfl, h0_a⟩⟩
noncomputable def cmp_isNaN_int.C : Code := (Tryz.f153.body).getD .skip
def cmp_isNaN_int.out (r : Bool) (H : Hp) (v : Value) : Prop := v = .bool r
noncomputable def cmp_isNaN_int.f (k : Nat) (x : Int) : Option Bool := some (!decide (x = x))
theorem cmp_isNaN_int.mono : ∀ k y0, LeO (cmp_isNaN_int.f k y0) (cmp_isNaN_int.f (k + 1) y0) := fun k _ => by unfold cmp_isNaN_int.f; exact (LeO.refl _)
theorem cmp_isNaN_int.calls (k : Nat) {H : Hp} {L : Items} {x : Int} {r : Bool} (he : cmp_isNaN_int.f k x = some r) : Ct Tryz.prog 153 ⟨[.int .i64 x]⟩ H L (fun v H' L' => L = L' ∧ H = H' ∧ v = .bool r) := by
 refine ct_outs (O := cmp_isNaN_int.out r) (fun _ _ h => h) ?_
 have hle : H.le H := .refl _
 unfold cmp_isNaN_int.f at he
 refine ct_enter (args := [.int .i64 x]) fn_153 rfl nt_153 rfl <| wR rfl <| wA (.bool false) rfl rfl <| wQ rfl <| wM (.int .i64 x) rfl rfl <| wM (.int .i64 x) rfl rfl <| w_d rfl (d_neq rfl rfl) <| wA (.bool (!decide (x = x))) rfl rfl <| w_done ?_
 obtain rfl := sj he
 refine w_return fn_153 rs_153 (.tmp (v := .bool (!decide (x = x))) rfl .nil) <| ⟨⟨[], rfl⟩, hle, rfl⟩
noncomputable def cmp_Compare_int.C : Code := (Tryz.f136.body).getD .skip
def cmp_Compare_int.out (r : Int) (H : Hp) (v : Value) : Prop := v = .int .i64 r
noncomputable def cmp_Compare_int.f (k : Nat) (x : Int) (y : Int) : Option Int := (cmp_isNaN_int.f k x).bind fun y1 => (cmp_isNaN_int.f k y).bind fun y5 => if y1 = true then (if y5 = true then (some (0)) else (some ((-1)))) else (if y5 = true then (some (1)) else (if x < y then (some ((-1))) else (if y < x then (some (1)) else (some (0)))))
theorem cmp_Compare_int.mono : ∀ k y0 y1, LeO (cmp_Compare_int.f k y0 y1) (cmp_Compare_int.f (k + 1) y0 y1) := fun k _ _ => by unfold cmp_Compare_int.f; exact (LeO.bind (cmp_isNaN_int.mono k _) fun _ => LeO.bind (cmp_isNaN_int.mono k _) fun _ => LeO.ite (LeO.ite (LeO.refl _) (LeO.refl _)) (LeO.ite (LeO.refl _) (LeO.ite (LeO.refl _) (LeO.ite (LeO.refl _) (LeO.refl _)))))
theorem cmp_Compare_int.calls (k : Nat) {H : Hp} {L : Items} {x : Int} {y : Int} {r : Int} (he : cmp_Compare_int.f k x y = some r) : Ct Tryz.prog 136 ⟨[.int .i64 x, .int .i64 y]⟩ H L (fun v H' L' => L = L' ∧ H = H' ∧ v = .int .i64 r) := by
 refine ct_outs (O := cmp_Compare_int.out r) (fun _ _ h => h) ?_
 have hle : H.le H := .refl _
 unfold cmp_Compare_int.f at he
 refine ct_enter (args := [.int .i64 x, .int .i64 y]) fn_136 rfl nt_136 rfl <| wR rfl <| wA (.int .i64 0) rfl rfl <| wQ rfl <| wM (.int .i64 x) rfl rfl ?_
 obtain ⟨y1, hy2, he⟩ := bs he
 refine w_d rfl (call_d (o_call co153 (vs := [.int .i64 x]) rfl (cmp_isNaN_int.calls k hy2))) <| wA (.bool y1) rfl rfl <| wQ rfl <| wM (.int .i64 y) rfl rfl ?_
 obtain ⟨y5, hy6, he⟩ := bs he
 refine w_d rfl (call_d (o_call co153 (vs := [.int .i64 y]) rfl (cmp_isNaN_int.calls k hy6))) <| wA (.bool y5) rfl rfl <| wE <| wR rfl <| wM (.bool y1) rfl rfl <| w_done ?_
 rcases its he with ⟨c9, he⟩ | ⟨c9, he⟩
 ·
  refine w_then rfl c9 <| w_seq <| wR rfl <| wM (.bool y5) rfl rfl <| w_done ?_
  rcases its he with ⟨c10, he⟩ | ⟨c10, he⟩
  ·
   refine w_then rfl c10 <| wR rfl <| wA (.int .i64 0) rfl rfl <| w_done ?_
   obtain rfl := sj he
   refine w_return fn_136 rs_136 (.tmp (v := .int .i64 0) rfl .nil) <| ⟨⟨[], rfl⟩, hle, rfl⟩
  ·
   refine w_else rfl (Bool.eq_false_iff.2 c10) <| w_skip <| wR rfl <| wA (.int .i64 (-1)) rfl rfl <| w_done ?_
   obtain rfl := sj he
   refine w_return fn_136 rs_136 (.tmp (v := .int .i64 (-1)) rfl .nil) <| ⟨⟨[], rfl⟩, hle, rfl⟩
 ·
  refine w_else rfl (Bool.eq_false_iff.2 c9) <| w_skip <| w_seq <| wR rfl <| wM (.bool y5) rfl rfl <| w_done ?_
  rcases its he with ⟨c11, he⟩ | ⟨c11, he⟩
  ·
   refine w_then rfl c11 <| wR rfl <| wA (.int .i64 1) rfl rfl <| w_done ?_
   obtain rfl := sj he
   refine w_return fn_136 rs_136 (.tmp (v := .int .i64 1) rfl .nil) <| ⟨⟨[], rfl⟩, hle, rfl⟩
  ·
   refine w_else rfl (Bool.eq_false_iff.2 c11) <| w_skip <| w_seq <| wR rfl <| wM (.int .i64 x) rfl rfl <| wM (.int .i64 y) rfl rfl <| w_d rfl (d_lss rfl rfl) <| w_done ?_
   rcases its he with ⟨c12, he⟩ | ⟨c12, he⟩
   ·
    refine w_then rfl (dt c12) <| wR rfl <| wA (.int .i64 (-1)) rfl rfl <| w_done ?_
    obtain rfl := sj he
    refine w_return fn_136 rs_136 (.tmp (v := .int .i64 (-1)) rfl .nil) <| ⟨⟨[], rfl⟩, hle, rfl⟩
   ·
    refine w_else rfl (df c12) <| w_skip <| w_seq <| wR rfl <| wM (.int .i64 x) rfl rfl <| wM (.int .i64 y) rfl rfl <| w_d rfl (d_gtr rfl rfl) <| w_done ?_
    rcases its he with ⟨c13, he⟩ | ⟨c13, he⟩
    ·
     refine w_then rfl (dt c13) <| wR rfl <| wA (.int .i64 1) rfl rfl <| w_done ?_
     obtain rfl := sj he
     refine w_return fn_136 rs_136 (.tmp (v := .int .i64 1) rfl .nil) <| ⟨⟨[], rfl⟩, hle, rfl⟩
    ·
     refine w_else rfl (df c13) <| w_skip <| wR rfl <| wA (.int .i64 0) rfl rfl <| w_done ?_
     obtain rfl := sj he
     refine w_return fn_136 rs_136 (.tmp (v := .int .i64 0) rfl .nil) <| ⟨⟨[], rfl⟩, hle, rfl⟩
noncomputable def cmp_isNaN_uint32.C : Code := (Tryz.f166.body).getD .skip
def cmp_isNaN_uint32.out (r : Bool) (H : Hp) (v : Value) : Prop := v = .bool r
noncomputable def cmp_isNaN_uint32.f (k : Nat) (x : Int) : Option Bool := some (!decide (x = x))
theorem cmp_isNaN_uint32.mono : ∀ k y0, LeO (cmp_isNaN_uint32.f k y0) (cmp_isNaN_uint32.f (k + 1) y0) := fun k _ => by unfold cmp_isNaN_uint32.f; exact (LeO.refl _)
theorem cmp_isNaN_uint32.calls (k : Nat) {H : Hp} {L : Items} {x : Int} {r : Bool} (he : cmp_isNaN_uint32.f k x = some r) : Ct Tryz.prog 166 ⟨[.int .u32 x]⟩ H L (fun v H' L' => L = L' ∧ H = H' ∧ v = .bool r) := by
 refine ct_outs (O := cmp_isNaN_uint32.out r) (fun _ _ h => h) ?_
 have hle : H.le H := .refl _
 unfold cmp_isNaN_uint32.f at he
 refine ct_enter (args := [.int .u32 x]) fn_166 rfl nt_166 rfl <| wR rfl <| wA (.bool false) rfl rfl <| wQ rfl <| wM (.int .u32 x) rfl rfl <| wM (.int .u32 x) rfl rfl <| w_d rfl (d_neq rfl rfl) <| wA (.bool (!decide (x = x))) rfl rfl <| w_done ?_
 obtain rfl := sj he
 refine w_return fn_166 rs_166 (.tmp (v := .bool (!decide (x = x))) rfl .nil) <| ⟨⟨[], rfl⟩, hle, rfl⟩
noncomputable def cmp_Compare_uint32.C : Code := (Tryz.f154.body).getD .skip
def cmp_Compare_uint32.out (r : Int) (H : Hp) (v : Value) : Prop := v = .int .i64 r
noncomputable def cmp_Compare_uint32.f (k : Nat) (x : Int) (y : Int) : Option Int := (cmp_isNaN_uint32.f k x).bind fun y1 => (cmp_isNaN_uint32.f k y).bind fun y5 => if y1 = true then (if y5 = true then (some (0)) else (some ((-1)))) else (if y5 = true then (some (1)) else (if x < y then (some ((-1))) else (if y < x then (some (1)) else (some (0)))))
theorem cmp_Compare_uint32.mono : ∀ k y0 y1, LeO (cmp_Compare_uint32.f k y0 y1) (cmp_Compare_uint32.f (k + 1) y0 y1) := fun k _ _ => by unfold cmp_Compare_uint32.f; exact (LeO.bind (cmp_isNaN_uint32.mono k _) fun _ => LeO.bind (cmp_isNaN_uint32.mono k _) fun _ => LeO.ite (LeO.ite (LeO.refl _) (LeO.refl _)) (LeO.ite (LeO.refl _) (LeO.ite (LeO.refl _) (LeO.ite (LeO.refl _) (LeO.refl _)))))
theorem cmp_Compare_uint32.calls (k : Nat) {H : Hp} {L : Items} {x : Int} {y : Int} {r : Int} (he : cmp_Compare_uint32.f k x y = some r) : Ct Tryz.prog 154 ⟨[.int .u32 x, .int .u32 y]⟩ H L (fun v H' L' => L = L' ∧ H = H' ∧ v = .int .i64 r) := by
 refine ct_outs (O := cmp_Compare_uint32.out r) (fun _ _ h => h) ?_
 have hle : H.le H := .refl _
 unfold cmp_Compare_uint32.f at he
 refine ct_enter (args := [.int .u32 x, .int .u32 y]) fn_154 rfl nt_154 rfl <| wR rfl <| wA (.int .i64 0) rfl rfl <| wQ rfl <| wM (.int .u32 x) rfl rfl ?_
 obtain ⟨y1, hy2, he⟩ := bs he
 refine w_d rfl (call_d (o_call co166 (vs := [.int .u32 x]) rfl (cmp_isNaN_uint32.calls k hy2))) <| wA (.bool y1) rfl rfl <| wQ rfl <| wM (.int .u32 y) rfl rfl ?_
 obtain ⟨y5, hy6, he⟩ := bs he
 refine w_d rfl (call_d (o_call co166 (vs := [.int .u32 y]) rfl (cmp_isNaN_uint32.calls k hy6))) <| wA (.bool y5) rfl rfl <| wE <| wR rfl <| wM (.bool y1) rfl rfl <| w_done ?_
 rcases its he with ⟨c9, he⟩ | ⟨c9, he⟩
 ·
  refine w_then rfl c9 <| w_seq <| wR rfl <| wM (.bool y5) rfl rfl <| w_done ?_
  rcases its he with ⟨c10, he⟩ | ⟨c10, he⟩
  ·
   refine w_then rfl c10 <| wR rfl <| wA (.int .i64 0) rfl rfl <| w_done ?_
   obtain rfl := sj he
   refine w_return fn_154 rs_154 (.tmp (v := .int .i64 0) rfl .nil) <| ⟨⟨[], rfl⟩, hle, rfl⟩
  ·
   refine w_else rfl (Bool.eq_false_iff.2 c10) <| w_skip <| wR rfl <| wA (.int .i64 (-1)) rfl rfl <| w_done ?_
   obtain rfl := sj he
   refine w_return fn_154 rs_154 (.tmp (v := .int .i64 (-1)) rfl .nil) <| ⟨⟨[], rfl⟩, hle, rfl⟩
 ·
  refine w_else rfl (Bool.eq_false_iff.2 c9) <| w_skip <| w_seq <| wR rfl <| wM (.bool y5) rfl rfl <| w_done ?_
  rcases its he with ⟨c11, he⟩ | ⟨c11, he⟩
  ·
   refine w_then rfl c11 <| wR rfl <| wA (.int .i64 1) rfl rfl <| w_done ?_
   obtain rfl := sj he
   refine w_return fn_154 rs_154 (.tmp (v := .int .i64 1) rfl .nil) <| ⟨⟨[], rfl⟩, hle, rfl⟩
  ·
   refine w_else rfl (Bool.eq_false_iff.2 c11) <| w_skip <| w_seq <| wR rfl <| wM (.int .u32 x) rfl rfl <| wM (.int .u32 y) rfl rfl <| w_d rfl (d_lss rfl rfl) <| w_done ?_
   rcases its he with ⟨c12, he⟩ | ⟨c12, he⟩
   ·
    refine w_then rfl (dt c12) <| wR rfl <| wA (.int .i64 (-1)) rfl rfl <| w_done ?_
    obtain rfl := sj he
    refine w_return fn_154 rs_154 (.tmp (v := .int .i64 (-1)) rfl .nil) <| ⟨⟨[], rfl⟩, hle, rfl⟩
   ·
    refine w_else rfl (df c12) <| w_skip <| w_seq <| wR rfl <| wM (.int .u32 x) rfl rfl <| wM (.int .u32 y) rfl rfl <| w_d rfl (d_gtr rfl rfl) <| w_done ?_
    rcases its he with ⟨c13, he⟩ | ⟨c13, he⟩
    ·
     refine w_then rfl (dt c13) <| wR rfl <| wA (.int .i64 1) rfl rfl <| w_done ?_
     obtain rfl := sj he
     refine w_return fn_154 rs_154 (.tmp (v := .int .i64 1) rfl .nil) <| ⟨⟨[], rfl⟩, hle, rfl⟩
    ·
     refine w_else rfl (df c13) <| w_skip <| wR rfl <| wA (.int .i64 0) rfl rfl <| w_done ?_
     obtain rfl := sj he
     refine w_return fn_154 rs_154 (.tmp (v := .int .i64 0) rfl .nil) <| ⟨⟨[], rfl⟩, hle, rfl⟩
noncomputable def wide_less.C : Code := (Tryz.f137.body).getD .skip
def wide_less.out (r : Int) (H : Hp) (v : Value) : Prop := v = .int .i64 r
abbrev wide_less.R (H0 : Hp) (L : Items) (r : Int) := fR H0 L (wide_less.out r)
structure wide_less.Hs where
 l0 : (List Int) → (List Int) → Int → Int → Option Int
noncomputable def wide_less.b0 (k : Nat) (h : wide_less.Hs)  (a : List Int) (b : List Int) (t4 : Int) (i : Int) : Option Int := if 0 ≤ i then (if (0 : Int) ≤ i ∧ i < (a.length : Int) then (if (0 : Int) ≤ i ∧ i < (b.length : Int) then ((cmp_Compare_uint32.f k (rd a i) (rd b i)).bind fun y11 => if y11 = 0 then (h.l0 a b t4 (w64 (i - 1))) else (some (y11))) else none) else none) else (some (0))
noncomputable def wide_less.hs : Nat → wide_less.Hs
 | 0 => ⟨fun _ _ _ _ => none⟩
 | k + 1 => ⟨fun x0 x1 x2 x3 => wide_less.b0 k (wide_less.hs k) x0 x1 x2 x3⟩
noncomputable def wide_less.f (k : Nat) (a : List Int) (b : List Int) : Option Int := (fun h : wide_less.Hs => (cmp_Compare_int.f k (a.length : Int) (b.length : Int)).bind fun y1 => if y1 = 0 then (h.l0 a b 0 (w64 ((a.length : Int) - 1))) else (some (y1))) (wide_less.hs k)
structure wide_less.LE (h h' : wide_less.Hs) : Prop where
 l0 : ∀ y0 y1 y2 y3, LeO (h.l0 y0 y1 y2 y3) (h'.l0 y0 y1 y2 y3)
theorem wide_less.b0_mono {k : Nat} {h h' : wide_less.Hs} (hl : wide_less.LE h h') : ∀ y0 y1 y2 y3, LeO (wide_less.b0 k h y0 y1 y2 y3) (wide_less.b0 (k + 1) h' y0 y1 y2 y3) := fun _ _ _ _ => (LeO.ite (LeO.ite (LeO.ite (LeO.bind (cmp_Compare_uint32.mono k _ _) fun _ => LeO.ite (hl.l0 _ _ _ _) (LeO.refl _)) (LeO.refl _)) (LeO.refl _)) (LeO.refl _))
theorem wide_less.hs_mono : ∀ k, wide_less.LE (wide_less.hs k) (wide_less.hs (k + 1))
 | 0 => ⟨fun _ _ _ _ => LeO.none _⟩
 | k + 1 => ⟨wide_less.b0_mono (k := k) (wide_less.hs_mono k)⟩
theorem wide_less.mono : ∀ k y0 y1, LeO (wide_less.f k y0 y1) (wide_less.f (k + 1) y0 y1) := fun k _ _ => have hl := wide_less.hs_mono k; by unfold wide_less.f; exact (LeO.bind (cmp_Compare_int.mono k _ _) fun _ => LeO.ite (hl.l0 _ _ _ _) (LeO.refl _))
noncomputable def wide_less.Kl0 : List Item := .code (lopB (blkB (seqR (seqL (seqR (seqR wide_less.C)))))) :: .inLoop (lopB (blkB (seqR (seqL (seqR (seqR wide_less.C)))))) :: .inBlock 0 :: .code (seqR (seqR (seqR wide_less.C))) :: []
structure wide_less.OK (h : wide_less.Hs) : Prop where
 l0 : ∀ {H0 H : Hp} {L : Items} {r : Int} {jk_ : Nat → Value} {a : List Int} {b : List Int} {t4 : Int} {i : Int} {v_a : Value} {v_b : Value} (_ : H0.le H) (_he : h.l0 a b t4 i = some r) (_h_a : Src kU32 H L v_a a) (_h_b : Src kU32 H L v_b b), Wp Tryz.prog 137 35 wide_less.Kl0 (upd (upd (upd (upd jk_ 0 (v_a)) 1 (v_b)) 4 (.int .i64 t4)) 6 (.int .i64 i)) H (L) (wide_less.R H0 L r)
theorem wide_less.b0_ok {k : Nat} {h : wide_less.Hs} (hh : wide_less.OK h) {H0 H : Hp} {L : Items} {r : Int} {jk_ : Nat → Value} {a : List Int} {b : List Int} {t4 : Int} {i : Int} {v_a : Value} {v_b : Value} (hle : H0.le H) (he : wide_less.b0 k h a b t4 i = some r) (h_a : Src kU32 H L v_a a) (h_b : Src kU32 H L v_b b) : Wp Tryz.prog 137 35 wide_less.Kl0 (upd (upd (upd (upd jk_ 0 (v_a)) 1 (v_b)) 4 (.int .i64 t4)) 6 (.int .i64 i)) H (L) (wide_less.R H0 L r) := by
 unfold wide_less.b0 at he
 unfold wide_less.Kl0
 refine w_seq <| wR rfl <| wM (.int .i64 i) rfl rfl <| w_d rfl (d_geq rfl rfl) <| w_done ?_
 rcases its he with ⟨c6, he⟩ | ⟨c6, he⟩
 ·
  refine w_then rfl (dt c6) <| w_skip <| w_seq <| w_block <| w_seq ?_
  obtain ⟨c7, he⟩ := rq he
  obtain ⟨c8, he⟩ := rq he
  refine w_drawn (p := 8) (tl := [8, 9]) [[], [], [(0, some 23), (1, some 24)], [(2, some 25)], [], [], [(4, some 27), (5, some 28)], [(6, some 29)]] [some 23, some 24, some 25, some 26, some 27, some 28, some 29, some 30] (fctF (.is (v_a) :: .is (.int .i64 i) :: .is (.pointer (some (pel v_a i 1))) :: .is (.int .u32 (rd a i)) :: .is (v_b) :: .is (.int .i64 i) :: .is (.pointer (some (pel v_b i 1))) :: .is (.int .u32 (rd b i)) :: [])) (fun m_ => L) (fun _ => none) mixed (by kernel_rfl) (by kernel_rfl) rfl (fct_mono (by kernel_rfl)) ⟨(fun H' m_ hH hm_ hu_ => dn <| s_d (m_ 0) rfl (d_move (v := v_a) rfl) (by exact rfl) rfl), (fun H' m_ hH hm_ hu_ => dn <| s_d (m_ 1) rfl (d_move (v := .int .i64 i) rfl) (by exact rfl) rfl), (by rintro H' m_ hH hm_ hu_ _ rfl _ rfl; exact dn <| s_d (m_ 2) rfl (d_index (sz := 1) Tryz.underlying22 sz167 rfl (h_a.mono hH) rfl c7) (by exact rfl) rfl), (by rintro H' m_ hH hm_ hu_ _ rfl; exact dn <| s_d (m_ 3) rfl (d_ldint ty167 rfl (h_a.mono hH) c7) (by exact rfl) rfl), (fun H' m_ hH hm_ hu_ => dn <| s_d (m_ 4) rfl (d_move (v := v_b) rfl) (by exact rfl) rfl), (fun H' m_ hH hm_ hu_ => dn <| s_d (m_ 5) rfl (d_move (v := .int .i64 i) rfl) (by exact rfl) rfl), (by rintro H' m_ hH hm_ hu_ _ rfl _ rfl; exact dn <| s_d (m_ 6) rfl (d_index (sz := 1) Tryz.underlying22 sz167 rfl (h_b.mono hH) rfl c8) (by exact rfl) rfl), (by rintro H' m_ hH hm_ hu_ _ rfl; exact dn <| s_d (m_ 7) rfl (d_ldint ty167 rfl (h_b.mono hH) c8) (by exact rfl) rfl), trivial⟩ ?_
  intro H9 e10
  rintro _ _ rfl _ _ rfl _ _ rfl _ _ rfl _ _ rfl _ _ rfl _ _ rfl _ _ rfl
  obtain ⟨y11, hy12, he⟩ := bs he
  refine w_d rfl (call_d (o_call co154 (vs := [.int .u32 (rd a i), .int .u32 (rd b i)]) rfl (cmp_Compare_uint32.calls k hy12))) <| wA (.int .i64 y11) rfl rfl <| wQ rfl <| wM (.int .i64 y11) rfl rfl <| w_d rfl (d_neq rfl rfl) <| w_done ?_
  rcases its he with ⟨c15, he⟩ | ⟨c15, he⟩
  ·
   refine w_else rfl (nd_t c15) <| w_skip <| w_inBlock <| w_region rfl <| wM (.int .i64 i) rfl rfl <| w_d rfl (d_sub (c := w64 (i - 1)) rfl rfl rfl) <| wA (.int .i64 (w64 (i - 1))) rfl rfl <| w_done <| w_inLoop <| w_sl 0 (v_a) rfl <| w_sl 1 (v_b) rfl <| w_sl 4 (.int .i64 t4) rfl ?_
   refine w_sl 6 (.int .i64 (w64 (i - 1))) rfl <| hh.l0 (hle.trans e10) he (h_a.mono e10) (h_b.mono e10)
  ·
   refine w_then rfl (nd_f c15) <| wR rfl <| wM (.int .i64 y11) rfl rfl <| wA (.int .i64 y11) rfl rfl <| w_done ?_
   obtain rfl := sj he
   refine w_return fn_137 rs_137 (.tmp (v := .int .i64 y11) rfl .nil) <| ⟨⟨[], rfl⟩, hle.trans e10, rfl⟩
 ·
  refine w_else rfl (df c6) <| w_exit rfl <| wR rfl <| wA (.int .i64 0) rfl rfl <| w_done ?_
  obtain rfl := sj he
  refine w_return fn_137 rs_137 (.tmp (v := .int .i64 0) rfl .nil) <| ⟨⟨[], rfl⟩, hle, rfl⟩
theorem wide_less.ok : ∀ k, wide_less.OK (wide_less.hs k)
 | 0 => ⟨(by intros; exact nomatch (show none = some _ from by assumption))⟩
 | k + 1 => ⟨wide_less.b0_ok (k := k) (wide_less.ok k)⟩
theorem wide_less.calls (k : Nat) {H : Hp} {L : Items} {a : List Int} {b : List Int} {v0_a : Value} {v1_b : Value} {r : Int} (he : wide_less.f k a b = some r) (h0_a : Src kU32 H L v0_a a) (h1_b : Src kU32 H L v1_b b) : Ct Tryz.prog 137 ⟨[v0_a, v1_b]⟩ H L (fun v H' L' => L = L' ∧ H = H' ∧ v = .int .i64 r) := by
 refine ct_outs (O := wide_less.out r) (fun _ _ h => h) ?_
 have hle : H.le H := .refl _
 have hh := wide_less.ok k
 unfold wide_less.f at he
 refine ct_enter (args := [v0_a, v1_b]) fn_137 rfl nt_137 rfl <| wR rfl <| wA (.int .i64 0) rfl rfl <| wE <| wR rfl <| wM v0_a rfl rfl <| w_d rfl (d_len Tryz.underlying22 rfl h0_a) <| wM v1_b rfl rfl <| w_d rfl (d_len Tryz.underlying22 rfl h1_b) ?_
 obtain ⟨y1, hy2, he⟩ := bs he
 refine w_d rfl (call_d (o_call co136 (vs := [.int .i64 (a.length : Int), .int .i64 (b.length : Int)]) rfl (cmp_Compare_int.calls k hy2))) <| wA (.int .i64 y1) rfl rfl <| wQ rfl <| wM (.int .i64 y1) rfl rfl <| w_d rfl (d_neq rfl rfl) <| w_done ?_
 rcases its he with ⟨c5, he⟩ | ⟨c5, he⟩
 ·
  refine w_else rfl (nd_t c5) <| w_skip <| w_seq <| wR rfl <| wM v0_a rfl rfl <| w_d rfl (d_len Tryz.underlying22 rfl h0_a) <| w_d rfl (d_sub (c := w64 ((a.length : Int) - 1)) rfl rfl rfl) <| wA (.int .i64 (w64 ((a.length : Int) - 1))) rfl rfl <| w_done <| w_block <| w_loop ?_
  refine w_sl 0 (v0_a) rfl <| w_sl 1 (v1_b) rfl <| w_sl 4 (.int .i64 0) rfl <| w_sl 6 (.int .i64 (w64 ((a.length : Int) - 1))) rfl <| hh.l0 hle he h0_a h1_b
 ·
  refine w_then rfl (nd_f c5) <| wR rfl <| wM (.int .i64 y1) rfl rfl <| wA (.int .i64 y1) rfl rfl <| w_done ?_
  obtain rfl := sj he
  refine w_return fn_137 rs_137 (.tmp (v := .int .i64 y1) rfl .nil) <| ⟨⟨[], rfl⟩, hle, rfl⟩
noncomputable def wide_short.C : Code := (Tryz.f130.body).getD .skip
def wide_short.out (r : (List Int) × Int) (H : Hp) (v : Value) : Prop := ∃ v0, v = .tuple ⟨[v0, .int .u32 r.2]⟩ ∧ Ro kU32 H v0 r.1
theorem wide_short.out_mono (r : (List Int) × Int) {H H' : Hp} {v : Value} (hle : H.le H') (h : wide_short.out r H v) : wide_short.out r H' v := by
 obtain ⟨v0, rfl, h0⟩ := h; exact ⟨v0, rfl, h0.mono hle⟩
abbrev wide_short.R (H0 : Hp) (L : Items) (r : (List Int) × Int) := fR H0 L (wide_short.out r)
structure wide_short.Hs where
 l0 : (List Int) → Int → (List Int) → Int → Int → Option ((List Int) × Int)
noncomputable def wide_short.b0 (k : Nat) (h : wide_short.Hs)  (a : List Int) (b : Int) (out : List Int) (rest : Int) (i : Int) : Option ((List Int) × Int) := if 0 ≤ i then (if (0 : Int) ≤ i ∧ i < (a.length : Int) then (if ((b) % 18446744073709551616) ≠ 0 then (if (0 : Int) ≤ i ∧ i < (out.length : Int) then (if ((b) % 18446744073709551616) ≠ 0 then (h.l0 a b (out.set (i : Int).toNat (((Int.tdiv (ior .u64 ((rest * 4294967296) % 18446744073709551616) ((rd a i) % 18446744073709551616)) ((b) % 18446744073709551616)) % 18446744073709551616) % 4294967296)) (Int.tmod (ior .u64 ((rest * 4294967296) % 18446744073709551616) ((rd a i) % 18446744073709551616)) ((b) % 18446744073709551616)) (w64 (i - 1))) else none) else none) else none) else none) else ((wide_trim.f k out).bind fun y15 => some (y15, (rest) % 4294967296))
noncomputable def wide_short.hs : Nat → wide_short.Hs
 | 0 => ⟨fun _ _ _ _ _ => none⟩
 | k + 1 => ⟨fun x0 x1 x2 x3 x4 => wide_short.b0 k (wide_short.hs k) x0 x1 x2 x3 x4⟩
noncomputable def wide_short.f (k : Nat) (a : List Int) (b : Int) : Option ((List Int) × Int) := (fun h : wide_short.Hs => if 0 ≤ (a.length : Int) ∧ (a.length : Int) ≤ 70368744177664 then (h.l0 a b (List.replicate ((a.length : Int) : Int).toNat (0 : Int)) 0 (w64 ((a.length : Int) - 1))) else none) (wide_short.hs k)
structure wide_short.LE (h h' : wide_short.Hs) : Prop where
 l0 : ∀ y0 y1 y2 y3 y4, LeO (h.l0 y0 y1 y2 y3 y4) (h'.l0 y0 y1 y2 y3 y4)
theorem wide_short.b0_mono {k : Nat} {h h' : wide_short.Hs} (hl : wide_short.LE h h') : ∀ y0 y1 y2 y3 y4, LeO (wide_short.b0 k h y0 y1 y2 y3 y4) (wide_short.b0 (k + 1) h' y0 y1 y2 y3 y4) := fun _ _ _ _ _ => (LeO.ite (LeO.ite (LeO.ite (LeO.ite (LeO.ite (hl.l0 _ _ _ _ _) (LeO.refl _)) (LeO.refl _)) (LeO.refl _)) (LeO.refl _)) (LeO.bind (wide_trim.mono k _) fun _ => LeO.refl _))
theorem wide_short.hs_mono : ∀ k, wide_short.LE (wide_short.hs k) (wide_short.hs (k + 1))
 | 0 => ⟨fun _ _ _ _ _ => LeO.none _⟩
 | k + 1 => ⟨wide_short.b0_mono (k := k) (wide_short.hs_mono k)⟩
theorem wide_short.mono : ∀ k y0 y1, LeO (wide_short.f k y0 y1) (wide_short.f (k + 1) y0 y1) := fun k _ _ => have hl := wide_short.hs_mono k; by unfold wide_short.f; exact (LeO.ite (hl.l0 _ _ _ _ _) (LeO.refl _))
noncomputable def wide_short.Kl0 : List Item := .code (lopB (blkB (seqR (seqL (seqR (seqR (seqR wide_short.C))))))) :: .inLoop (lopB (blkB (seqR (seqL (seqR (seqR (seqR wide_short.C))))))) :: .inBlock 0 :: .code (seqR (seqR (seqR (seqR wide_short.C)))) :: []
structure wide_short.OK (h : wide_short.Hs) : Prop where
 l0 : ∀ {H0 H : Hp} {L : Items} {r : (List Int) × Int} {jk_ : Nat → Value} {a : List Int} {b : Int} {out : List Int} {rest : Int} {i : Int} {v_a : Value} {v_out : Value} {i_out : Item'} (_ : H0.le H) (_he : h.l0 a b out rest i = some r) (_h_a : Src kU32 H L v_a a) (_h_out : Sl kU32 H 167 i_out v_out out), Wp Tryz.prog 130 44 wide_short.Kl0 (upd (upd (upd (upd (upd (upd (upd jk_ 0 (v_a)) 1 (.int .u32 b)) 4 (.slice none 0 0)) 5 (.int .u32 0)) 6 (v_out)) 7 (.int .u64 rest)) 8 (.int .i64 i)) H (i_out :: L) (wide_short.R H0 L r)
theorem wide_short.b0_ok {k : Nat} {h : wide_short.Hs} (hh : wide_short.OK h) {H0 H : Hp} {L : Items} {r : (List Int) × Int} {jk_ : Nat → Value} {a : List Int} {b : Int} {out : List Int} {rest : Int} {i : Int} {v_a : Value} {v_out : Value} {i_out : Item'} (hle : H0.le H) (he : wide_short.b0 k h a b out rest i = some r) (h_a : Src kU32 H L v_a a) (h_out : Sl kU32 H 167 i_out v_out out) : Wp Tryz.prog 130 44 wide_short.Kl0 (upd (upd (upd (upd (upd (upd (upd jk_ 0 (v_a)) 1 (.int .u32 b)) 4 (.slice none 0 0)) 5 (.int .u32 0)) 6 (v_out)) 7 (.int .u64 rest)) 8 (.int .i64 i)) H (i_out :: L) (wide_short.R H0 L r) := by
 unfold wide_short.b0 at he
 unfold wide_short.Kl0
 refine w_seq <| wR rfl <| wM (.int .i64 i) rfl rfl <| w_d rfl (d_geq rfl rfl) <| w_done ?_
 rcases its he with ⟨c5, he⟩ | ⟨c5, he⟩
 ·
  refine w_then rfl (dt c5) <| w_skip <| w_seq <| w_block <| wR rfl <| wM (.int .u64 rest) rfl rfl <| w_d rfl (d_shl (c := (rest * 4294967296) % 18446744073709551616) rfl rfl (by decide) rfl) <| wM v_a rfl rfl <| wM (.int .i64 i) rfl rfl ?_
  obtain ⟨c6, he⟩ := rq he
  refine w_d rfl (d_index (sz := 1) Tryz.underlying22 sz167 rfl h_a.th rfl c6) <| w_d rfl (d_ldint ty167 rfl h_a.th c6) <| w_d rfl (d_conv (c := (rd a i) % 18446744073709551616) Tryz.underlying167 Tryz.underlying113 rfl rfl) <| w_d rfl (d_bor rfl rfl) <| wA (.int .u64 (ior .u64 ((rest * 4294967296) % 18446744073709551616) ((rd a i) % 18446744073709551616))) rfl rfl <| wQ rfl <| wM v_out rfl rfl <| wM (.int .i64 i) rfl rfl <| wM (.int .u64 (ior .u64 ((rest * 4294967296) % 18446744073709551616) ((rd a i) % 18446744073709551616))) rfl rfl <| wM (.int .u32 b) rfl rfl ?_
  refine w_d rfl (d_conv (c := (b) % 18446744073709551616) Tryz.underlying167 Tryz.underlying113 rfl rfl) ?_
  obtain ⟨c7, he⟩ := rq he
  refine w_d rfl (d_quo (c := (Int.tdiv (ior .u64 ((rest * 4294967296) % 18446744073709551616) ((rd a i) % 18446744073709551616)) ((b) % 18446744073709551616)) % 18446744073709551616) rfl rfl c7 rfl) <| w_d rfl (d_conv (c := ((Int.tdiv (ior .u64 ((rest * 4294967296) % 18446744073709551616) ((rd a i) % 18446744073709551616)) ((b) % 18446744073709551616)) % 18446744073709551616) % 4294967296) Tryz.underlying113 Tryz.underlying167 rfl rfl) ?_
  obtain ⟨c8, he⟩ := rq he
  refine w_d rfl (d_indexS (sz := 1) Tryz.underlying22 sz167 rfl h_out.shp rfl c8) <| w_a0 rfl (o_storeEl (kd := kU32) (v := .int .u32 (((Int.tdiv (ior .u64 ((rest * 4294967296) % 18446744073709551616) ((rd a i) % 18446744073709551616)) ((b) % 18446744073709551616)) % 18446744073709551616) % 4294967296)) (F := fun z_ => z_ :: L) sz167 rfl rfl rfl rfl h_out c8 (fun _ => .here)) ?_
  rintro _ _ _ ⟨i9, rfl, rfl, rfl, h10⟩
  refine w_done <| w_region rfl <| wM (.int .u64 (ior .u64 ((rest * 4294967296) % 18446744073709551616) ((rd a i) % 18446744073709551616))) rfl rfl <| wM (.int .u32 b) rfl rfl <| w_d rfl (d_conv (c := (b) % 18446744073709551616) Tryz.underlying167 Tryz.underlying113 rfl rfl) ?_
  obtain ⟨c11, he⟩ := rq he
  refine w_d rfl (d_rem rfl rfl c11) <| wA (.int .u64 (Int.tmod (ior .u64 ((rest * 4294967296) % 18446744073709551616) ((rd a i) % 18446744073709551616)) ((b) % 18446744073709551616))) rfl rfl <| w_done <| w_inBlock <| w_region rfl <| wM (.int .i64 i) rfl rfl <| w_d rfl (d_sub (c := w64 (i - 1)) rfl rfl rfl) <| wA (.int .i64 (w64 (i - 1))) rfl rfl <| w_done <| w_inLoop <| w_sl 0 (v_a) rfl <| w_sl 1 (.int .u32 b) rfl ?_
  refine w_sl 4 (.slice none 0 0) rfl <| w_sl 5 (.int .u32 0) rfl <| w_sl 6 (v_out) rfl <| w_sl 7 (.int .u64 (Int.tmod (ior .u64 ((rest * 4294967296) % 18446744073709551616) ((rd a i) % 18446744073709551616)) ((b) % 18446744073709551616))) rfl <| w_sl 8 (.int .i64 (w64 (i - 1))) rfl <| hh.l0 hle he h_a h10
 ·
  refine w_else rfl (df c5) <| w_exit rfl <| wR rfl <| wM v_out rfl rfl <| w_freeze h_out .here ?_
  intro H12 e13 h14
  obtain ⟨y15, hy16, he⟩ := bs he
  refine w_a rfl (o_call co113 (vs := [v_out]) rfl (wide_trim.calls k hy16 h14)) ?_
  rintro v19 H17 _ ⟨rfl, e18, h20⟩
  refine wM (.int .u64 rest) rfl rfl <| w_d rfl (d_conv (c := (rest) % 4294967296) Tryz.underlying113 Tryz.underlying167 rfl rfl) <| wA v19 rfl rfl <| wA (.int .u32 ((rest) % 4294967296)) rfl rfl <| w_done ?_
  obtain rfl := sj he
  refine w_return fn_130 rs_130 (.tmp (v := v19) rfl (.tmp (v := .int .u32 ((rest) % 4294967296)) rfl .nil)) <| ⟨⟨[_], rfl⟩, hle.trans (e13.trans e18), ⟨v19, rfl, h20⟩⟩
theorem wide_short.ok : ∀ k, wide_short.OK (wide_short.hs k)
 | 0 => ⟨(by intros; exact nomatch (show none = some _ from by assumption))⟩
 | k + 1 => ⟨wide_short.b0_ok (k := k) (wide_short.ok k)⟩
theorem wide_short.calls (k : Nat) {H : Hp} {L : Items} {a : List Int} {b : Int} {v0_a : Value} {r : (List Int) × Int} (he : wide_short.f k a b = some r) (h0_a : Src kU32 H L v0_a a) : Ct Tryz.prog 130 ⟨[v0_a, .int .u32 b]⟩ H L (cR H L (wide_short.out r)) := by
 refine ct_out (O := wide_short.out r) ?_
 have hle : H.le H := .refl _
 have hh := wide_short.ok k
 unfold wide_short.f at he
 refine ct_enter (args := [v0_a, .int .u32 b]) fn_130 rfl nt_130 rfl <| wR rfl <| wA (.slice none 0 0) rfl rfl <| wA (.int .u32 0) rfl rfl <| wQ rfl <| wM v0_a rfl rfl <| w_d rfl (d_len Tryz.underlying22 rfl h0_a) ?_
 obtain ⟨c1, he⟩ := rq he
 refine w_a rfl (o_make' (kd := kU32) (z0 := 0) Tryz.underlying22 ti167 (zp167 _) rfl rfl (by omega) (by omega) (by omega)) ?_
 rintro v2 _ _ ⟨i3, rfl, rfl, h4⟩
 refine wA v2 rfl rfl <| wQ rfl <| wA (.int .u64 0) rfl rfl <| wE <| wR rfl <| wM v0_a rfl rfl <| w_d rfl (d_len Tryz.underlying22 rfl h0_a.th) <| w_d rfl (d_sub (c := w64 ((a.length : Int) - 1)) rfl rfl rfl) ?_
 refine wA (.int .i64 (w64 ((a.length : Int) - 1))) rfl rfl <| w_done <| w_block <| w_loop <| w_sl 0 (v0_a) rfl <| w_sl 1 (.int .u32 b) rfl <| w_sl 4 (.slice none 0 0) rfl <| w_sl 5 (.int .u32 0) rfl <| w_sl 6 (v2) rfl <| w_sl 7 (.int .u64 0) rfl <| w_sl 8 (.int .i64 (w64 ((a.length : Int) - 1))) rfl <| hh.l0 hle he h0_a h4
noncomputable def bits_Len32.C : Code := (Tryz.f167.body).getD .skip
def bits_Len32.out (r : Int) (H : Hp) (v : Value) : Prop := v = .int .i64 r
abbrev bits_Len32.R (H0 : Hp) (L : Items) (r : Int) := fR H0 L (bits_Len32.out r)
noncomputable def bits_Len32.j2 (k : Nat)  (x : Int) (n : Int) : Option Int := if (0 : Int) ≤ (x) % 256 ∧ (x) % 256 < (str_4.size : Int) then (some (w64 (n + (w64 (bt str_4 ((x) % 256)))))) else none
noncomputable def bits_Len32.j1 (k : Nat)  (x : Int) (n : Int) : Option Int := if 256 ≤ x then (bits_Len32.j2 k (x / 256) (w64 (n + 8))) else (bits_Len32.j2 k x n)
noncomputable def bits_Len32.f (k : Nat) (x : Int) : Option Int := if 65536 ≤ x then (bits_Len32.j1 k (x / 65536) 16) else (bits_Len32.j1 k x 0)
theorem bits_Len32.j2_mono {k : Nat} : ∀ y0 y1, LeO (bits_Len32.j2 k y0 y1) (bits_Len32.j2 (k + 1) y0 y1) := fun _ _ => (LeO.ite (LeO.refl _) (LeO.refl _))
theorem bits_Len32.j1_mono {k : Nat} : ∀ y0 y1, LeO (bits_Len32.j1 k y0 y1) (bits_Len32.j1 (k + 1) y0 y1) := fun _ _ => (LeO.ite (bits_Len32.j2_mono (k := k)  _ _) (bits_Len32.j2_mono (k := k)  _ _))
theorem bits_Len32.mono : ∀ k y0, LeO (bits_Len32.f k y0) (bits_Len32.f (k + 1) y0) := fun k _ => by unfold bits_Len32.f; exact (LeO.ite (bits_Len32.j1_mono (k := k)  _ _) (bits_Len32.j1_mono (k := k)  _ _))
noncomputable def bits_Len32.Kj1 : List Item := .code (seqR (seqR bits_Len32.C)) :: []
noncomputable def bits_Len32.Kj2 : List Item := .code (seqR (seqR (seqR bits_Len32.C))) :: []
theorem bits_Len32.j2_ok {k : Nat} {H0 H : Hp} {L : Items} {r : Int} {jk_ : Nat → Value} {x : Int} {n : Int} (hle : H0.le H) (he : bits_Len32.j2 k x n = some r) : Wp Tryz.prog 167 19 bits_Len32.Kj2 (upd (upd jk_ 0 (.int .u32 x)) 2 (.int .i64 n)) H (L) (bits_Len32.R H0 L r) := by
 unfold bits_Len32.j2 at he
 unfold bits_Len32.Kj2
 refine wR rfl <| wM (.int .i64 n) rfl rfl <| wM (.int .u32 x) rfl rfl <| w_d rfl (d_conv (c := (x) % 256) Tryz.underlying167 Tryz.underlying5 rfl rfl) ?_
 obtain ⟨c3, he⟩ := rq he
 refine w_d rfl (d_bt Tryz.underlying9 rfl rfl c3) <| w_d rfl (d_conv (c := w64 (bt str_4 ((x) % 256))) Tryz.underlying5 Tryz.underlying3 rfl rfl) <| w_d rfl (d_add (c := w64 (n + (w64 (bt str_4 ((x) % 256))))) rfl rfl rfl) <| wA (.int .i64 (w64 (n + (w64 (bt str_4 ((x) % 256)))))) rfl rfl <| w_done ?_
 obtain rfl := sj he
 refine w_return fn_167 rs_167 (.tmp (v := .int .i64 (w64 (n + (w64 (bt str_4 ((x) % 256)))))) rfl .nil) <| ⟨⟨[], rfl⟩, hle, rfl⟩
theorem bits_Len32.j1_ok {k : Nat} {H0 H : Hp} {L : Items} {r : Int} {jk_ : Nat → Value} {x : Int} {n : Int} (hle : H0.le H) (he : bits_Len32.j1 k x n = some r) : Wp Tryz.prog 167 19 bits_Len32.Kj1 (upd (upd jk_ 0 (.int .u32 x)) 2 (.int .i64 n)) H (L) (bits_Len32.R H0 L r) := by
 unfold bits_Len32.j1 at he
 unfold bits_Len32.Kj1
 refine w_seq <| wR rfl <| wM (.int .u32 x) rfl rfl <| w_d rfl (d_geq rfl rfl) <| w_done ?_
 rcases its he with ⟨c2, he⟩ | ⟨c2, he⟩
 ·
  refine w_then rfl (dt c2) <| wR rfl <| wM (.int .u32 x) rfl rfl <| w_d rfl (d_shr (c := x / 256) rfl rfl (by decide) rfl) <| wA (.int .u32 (x / 256)) rfl rfl <| w_done <| w_region rfl <| wM (.int .i64 n) rfl rfl <| w_d rfl (d_add (c := w64 (n + 8)) rfl rfl rfl) <| wA (.int .i64 (w64 (n + 8))) rfl rfl <| w_done ?_
  refine w_sl 0 (.int .u32 (x / 256)) rfl <| w_sl 2 (.int .i64 (w64 (n + 8))) rfl <| bits_Len32.j2_ok (k := k) hle he
 ·
  refine w_else rfl (df c2) <| w_skip <| w_sl 0 (.int .u32 x) rfl <| w_sl 2 (.int .i64 n) rfl <| bits_Len32.j2_ok (k := k) hle he
theorem bits_Len32.calls (k : Nat) {H : Hp} {L : Items} {x : Int} {r : Int} (he : bits_Len32.f k x = some r) : Ct Tryz.prog 167 ⟨[.int .u32 x]⟩ H L (fun v H' L' => L = L' ∧ H = H' ∧ v = .int .i64 r) := by
 refine ct_outs (O := bits_Len32.out r) (fun _ _ h => h) ?_
 have hle : H.le H := .refl _
 unfold bits_Len32.f at he
 refine ct_enter (args := [.int .u32 x]) fn_167 rfl nt_167 rfl <| wR rfl <| wA (.int .i64 0) rfl rfl <| wE <| wR rfl <| wM (.int .u32 x) rfl rfl <| w_d rfl (d_geq rfl rfl) <| w_done ?_
 rcases its he with ⟨c1, he⟩ | ⟨c1, he⟩
 ·
  refine w_then rfl (dt c1) <| wR rfl <| wM (.int .u32 x) rfl rfl <| w_d rfl (d_shr (c := x / 65536) rfl rfl (by decide) rfl) <| wA (.int .u32 (x / 65536)) rfl rfl <| w_done <| w_region rfl <| wA (.int .i64 16) rfl rfl <| w_done <| w_sl 0 (.int .u32 (x / 65536)) rfl <| w_sl 2 (.int .i64 16) rfl <| bits_Len32.j1_ok (k := k) hle he
 ·
  refine w_else rfl (df c1) <| w_skip <| w_sl 0 (.int .u32 x) rfl <| w_sl 2 (.int .i64 0) rfl <| bits_Len32.j1_ok (k := k) hle he
noncomputable def bits_LeadingZeros32.C : Code := (Tryz.f155.body).getD .skip
def bits_LeadingZeros32.out (r : Int) (H : Hp) (v : Value) : Prop := v = .int .i64 r
noncomputable def bits_LeadingZeros32.f (k : Nat) (x : Int) : Option Int := (bits_Len32.f k x).bind fun y1 => some (w64 (32 - y1))
theorem bits_LeadingZeros32.mono : ∀ k y0, LeO (bits_LeadingZeros32.f k y0) (bits_LeadingZeros32.f (k + 1) y0) := fun k _ => by unfold bits_LeadingZeros32.f; exact (LeO.bind (bits_Len32.mono k _) fun _ => LeO.refl _)
theorem bits_LeadingZeros32.calls (k : Nat) {H : Hp} {L : Items} {x : Int} {r : Int} (he : bits_LeadingZeros32.f k x = some r) : Ct Tryz.prog 155 ⟨[.int .u32 x]⟩ H L (fun v H' L' => L = L' ∧ H = H' ∧ v = .int .i64 r) := by
 refine ct_outs (O := bits_LeadingZeros32.out r) (fun _ _ h => h) ?_
 have hle : H.le H := .refl _
 unfold bits_LeadingZeros32.f at he
 refine ct_enter (args := [.int .u32 x]) fn_155 rfl nt_155 rfl <| wR rfl <| wA (.int .i64 0) rfl rfl <| wQ rfl <| wM (.int .u32 x) rfl rfl ?_
 obtain ⟨y1, hy2, he⟩ := bs he
 refine w_d rfl (call_d (o_call co167 (vs := [.int .u32 x]) rfl (bits_Len32.calls k hy2))) <| w_d rfl (d_sub (c := w64 (32 - y1)) rfl rfl rfl) <| wA (.int .i64 (w64 (32 - y1))) rfl rfl <| w_done ?_
 obtain rfl := sj he
 refine w_return fn_155 rs_155 (.tmp (v := .int .i64 (w64 (32 - y1))) rfl .nil) <| ⟨⟨[], rfl⟩, hle, rfl⟩
end Go.Proofs.YtkccpkccdbfomaaGreatDoor.GSH

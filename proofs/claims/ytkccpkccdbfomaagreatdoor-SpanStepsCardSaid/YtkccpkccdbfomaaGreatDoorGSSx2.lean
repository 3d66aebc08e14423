/- printed by gen.py -/
import Derived.Test.YtkccpkccdbfomaaGreatDoorGSSx1
namespace Go.Proofs.YtkccpkccdbfomaaGreatDoor.GSS
open Go Go.RowKit Go.Proofs.YtkccpkccdbfomaaGreatDoorK Go.Proofs.YtkccpkccdbfomaaGreatDoor
set_option maxRecDepth 100000
set_option maxHeartbeats 2000000
set_option linter.unusedVariables false
set_option linter.unusedSimpArgs false
noncomputable def Qs.C : Code := (Tryz.f99.body).getD .skip
def Qs.out (r : ByteArray) (H : Hp) (v : Value) : Prop := v = .string r
abbrev Qs.R (H0 : Hp) (L : Items) (r : ByteArray) := fR H0 L (Qs.out r)
structure Qs.Hs where
 l0 : Bool → (List Int) → ByteArray → ByteArray → Int → Option ByteArray
noncomputable def Qs.j1 (k : Nat) (h : Qs.Hs) (a_0 : Bool) (a_1 : List Int) (t2 s : ByteArray) : Option ByteArray := if (a_1.length : Int) = 0 then (some (str_2)) else (h.l0 a_0 a_1 t2 s (w64 ((a_1.length : Int) - 1)))
noncomputable def Qs.b0 (k : Nat) (h : Qs.Hs) (a_0 : Bool) (a_1 : List Int) (t2 s : ByteArray) (i : Int) : Option ByteArray := if 0 ≤ i then (if (0 : Int) ≤ i ∧ i < (a_1.length : Int) then (if (0 : Int) ≤ i ∧ i < (a_1.length : Int) then (if (0 : Int) ≤ rd a_1 i ∧ (rd a_1 i : Int) ≤ w64 ((rd a_1 i) + 1) ∧ w64 ((rd a_1 i) + 1) ≤ (str_3.size : Int) then (if (s.size + (scut str_3 (rd a_1 i) (w64 ((rd a_1 i) + 1))).size : Int) ≤ 9223372036854775807 then (h.l0 a_0 a_1 t2 (s ++ (scut str_3 (rd a_1 i) (w64 ((rd a_1 i) + 1)))) (w64 (i - 1))) else none) else none) else none) else none) else (some (s))
noncomputable def Qs.hs : Nat → Qs.Hs
 | 0 => ⟨fun _ _ _ _ _ => none⟩
 | k + 1 => ⟨fun x0 x1 x2 x3 x4 => Qs.b0 k (Qs.hs k) x0 x1 x2 x3 x4⟩
noncomputable def Qs.f (k : Nat) (a : Qh) : Option ByteArray := (fun h : Qs.Hs => (XK.f k a).bind fun y2 => if y2 < 0 then (Qs.j1 k h a.f_Neg a.f_D str_0 str_1) else (Qs.j1 k h a.f_Neg a.f_D str_0 str_0)) (Qs.hs k)
noncomputable def Qs.Kj1 : List Item := .code (seqR (seqR (seqR Qs.C))) :: []
noncomputable def Qs.Kl0 : List Item := .code (lopB (blkB (seqR (seqL (seqR (seqR (seqR (seqR Qs.C)))))))) :: .inLoop (lopB (blkB (seqR (seqL (seqR (seqR (seqR (seqR Qs.C)))))))) :: .inBlock 0 :: .code (seqR (seqR (seqR (seqR (seqR Qs.C))))) :: []
structure Qs.OK (h : Qs.Hs) : Prop where
 l0 : ∀ {H0 H : Hp} {L : Items} {r : ByteArray} {jk_ : Nat → Value} {a_0 : Bool} {a_1 : List Int} {t2 : ByteArray} {s : ByteArray} {i : Int} {v_a_1 : Value} {b_a : Nat} (_ : H0.le H) (_he : h.l0 a_0 a_1 t2 s i = some r) (_h_a_1 : Ro kI64 H v_a_1 a_1), Wp Tryz.prog 99 35 Qs.Kl0 (upd (upd (upd (upd jk_ 1 (pt b_a)) 2 (.string t2)) 3 (.string s)) 4 (.int .i64 i)) H (bx b_a [.bool a_0, v_a_1] 37 :: L) (Qs.R H0 L r)
theorem Qs.j1_ok {k : Nat} {h : Qs.Hs} (hh : Qs.OK h) {H0 H : Hp} {L : Items} {r : ByteArray} {jk_ : Nat → Value} {a_0 : Bool} {a_1 : List Int} {t2 s : ByteArray} {v_a_1 : Value} {b_a : Nat} (hle : H0.le H) (he : Qs.j1 k h a_0 a_1 t2 s = some r) (h_a_1 : Ro kI64 H v_a_1 a_1) : Wp Tryz.prog 99 35 Qs.Kj1 (upd (upd (upd jk_ 1 (pt b_a)) 2 (.string t2)) 3 (.string s)) H (bx b_a [.bool a_0, v_a_1] 37 :: L) (Qs.R H0 L r) := by
 unfold Qs.j1 at he
 unfold Qs.Kj1
 refine QX <| wR rfl <| w_d rfl (QM (o' := 1) Tryz.underlying37 rfl sz35 rfl rfl rfl) <| wL v_a_1 ty35 rfl rfl .here rfl rfl <| w_d rfl (XL Tryz.underlying35 rfl h_a_1.src) <| w_d rfl (Zb rfl rfl) <| Qc ?_
 rcases its he with ⟨c7, he⟩ | ⟨c7, he⟩
 ·
  refine QB rfl (dt c7) <| wR rfl <| wA (.string str_2) rfl rfl <| Qc ?_
  obtain rfl := sj he
  refine Qn fn_99 rs_99 (.tmp (v := .string str_2) rfl .nil) <| ⟨⟨[_], rfl⟩, hle, rfl⟩
 ·
  refine QI rfl (df c7) <| QF <| QX <| wR rfl <| w_d rfl (QM (o' := 1) Tryz.underlying37 rfl sz35 rfl rfl rfl) <| wL v_a_1 ty35 rfl rfl .here rfl rfl <| w_d rfl (XL Tryz.underlying35 rfl h_a_1.src) <| w_d rfl (YT (c := w64 ((a_1.length : Int) - 1)) rfl rfl rfl) <| wA (.int .i64 (w64 ((a_1.length : Int) - 1))) rfl rfl <| Qc <| Q8 ?_
  refine Ye <| w_sl 1 (pt b_a) rfl <| w_sl 2 (.string t2) rfl <| w_sl 3 (.string s) rfl <| w_sl 4 (.int .i64 (w64 ((a_1.length : Int) - 1))) rfl <| hh.l0 hle he h_a_1
theorem Qs.b0_ok {k : Nat} {h : Qs.Hs} (hh : Qs.OK h) {H0 H : Hp} {L : Items} {r : ByteArray} {jk_ : Nat → Value} {a_0 : Bool} {a_1 : List Int} {t2 s : ByteArray} {i : Int} {v_a_1 : Value} {b_a : Nat} (hle : H0.le H) (he : Qs.b0 k h a_0 a_1 t2 s i = some r) (h_a_1 : Ro kI64 H v_a_1 a_1) : Wp Tryz.prog 99 35 Qs.Kl0 (upd (upd (upd (upd jk_ 1 (pt b_a)) 2 (.string t2)) 3 (.string s)) 4 (.int .i64 i)) H (bx b_a [.bool a_0, v_a_1] 37 :: L) (Qs.R H0 L r) := by
 unfold Qs.b0 at he
 unfold Qs.Kl0
 refine QX <| wR rfl <| wM (.int .i64 i) rfl rfl <| w_d rfl (ZU rfl rfl) <| Qc ?_
 rcases its he with ⟨c8, he⟩ | ⟨c8, he⟩
 ·
  refine QB rfl (dt c8) <| QF <| QX <| Q8 <| rK he fun c9 he => rK he fun c10 he => rK he fun c11 he => Xv (p := 13) (tl := [13, 14]) [[], [], [(1, some 21)], [], [(2, some 22), (3, some 23)], [(4, some 24)], [], [(6, some 26)], [], [(7, some 27), (8, some 28)], [(9, some 29)], [(10, some 30)], [(5, some 25), (11, some 31)]] [some 20, some 21, some 22, some 23, some 24, some 25, some 26, some 27, some 28, some 29, some 30, some 31, some 32] (fctF (.is (.string s) :: .is (po b_a 1) :: .is (v_a_1) :: .is (.int .i64 i) :: .is (.pointer (some (pel v_a_1 i 1))) :: .is (.int .i64 (rd a_1 i)) :: .is (po b_a 1) :: .is (v_a_1) :: .is (.int .i64 i) :: .is (.pointer (some (pel v_a_1 i 1))) :: .is (.int .i64 (rd a_1 i)) :: .is (.int .i64 (w64 ((rd a_1 i) + 1))) :: .is (.string (scut str_3 (rd a_1 i) (w64 ((rd a_1 i) + 1)))) :: [])) (fun m_ => bx b_a [.bool a_0, v_a_1] 37 :: L) (fun _ => none) mixed (by kernel_rfl) (by kernel_rfl) rfl (Xn (by kernel_rfl)) ⟨(fun H' m_ hH hm_ hu_ => dn <| s_d (m_ 0) rfl (QR (v := .string s) rfl) (by exact rfl) rfl), (fun H' m_ hH hm_ hu_ => dn <| s_d (m_ 1) rfl (QM (o' := 1) Tryz.underlying37 rfl sz35 rfl rfl rfl) (by exact rfl) rfl), (by rintro H' m_ hH hm_ hu_ _ rfl; exact dn <| s_d (m_ 2) rfl (Qq (v := v_a_1) ty35 rfl .here rfl rfl rfl rfl) (by exact rfl) rfl), (fun H' m_ hH hm_ hu_ => dn <| s_d (m_ 3) rfl (QR (v := .int .i64 i) rfl) (by exact rfl) rfl), (by rintro H' m_ hH hm_ hu_ _ rfl _ rfl; exact dn <| s_d (m_ 4) rfl (XT (sz := 1) Tryz.underlying35 sz3 rfl (h_a_1.mono hH).src rfl c9) (by exact rfl) rfl), (by rintro H' m_ hH hm_ hu_ _ rfl; exact dn <| s_d (m_ 5) rfl (XX ty3 rfl (h_a_1.mono hH).src c9) (by exact rfl) rfl), (fun H' m_ hH hm_ hu_ => dn <| s_d (m_ 6) rfl (QM (o' := 1) Tryz.underlying37 rfl sz35 rfl rfl rfl) (by exact rfl) rfl), (by rintro H' m_ hH hm_ hu_ _ rfl; exact dn <| s_d (m_ 7) rfl (Qq (v := v_a_1) ty35 rfl .here rfl rfl rfl rfl) (by exact rfl) rfl), (fun H' m_ hH hm_ hu_ => dn <| s_d (m_ 8) rfl (QR (v := .int .i64 i) rfl) (by exact rfl) rfl), (by rintro H' m_ hH hm_ hu_ _ rfl _ rfl; exact dn <| s_d (m_ 9) rfl (XT (sz := 1) Tryz.underlying35 sz3 rfl (h_a_1.mono hH).src rfl c10) (by exact rfl) rfl), (by rintro H' m_ hH hm_ hu_ _ rfl; exact dn <| s_d (m_ 10) rfl (XX ty3 rfl (h_a_1.mono hH).src c10) (by exact rfl) rfl), (by rintro H' m_ hH hm_ hu_ _ rfl; exact dn <| s_d (m_ 11) rfl (XG (c := w64 ((rd a_1 i) + 1)) rfl rfl rfl) (by exact rfl) rfl), (by rintro H' m_ hH hm_ hu_ _ rfl _ rfl; exact dn <| s_d (m_ 12) rfl (UZ Tryz.underlying9 rfl (.inr ⟨_, _, rfl, rfl⟩) (.inr ⟨_, _, rfl, rfl⟩) c11) (by exact rfl) rfl), trivial⟩ ?_
  intro H12 e13
  rintro _ _ rfl _ _ rfl _ _ rfl _ _ rfl _ _ rfl _ _ rfl _ _ rfl _ _ rfl _ _ rfl _ _ rfl _ _ rfl _ _ rfl _ _ rfl
  refine rK he fun c14 he => w_d rfl (MW rfl rfl c14) <| wA (.string (s ++ (scut str_3 (rd a_1 i) (w64 ((rd a_1 i) + 1))))) rfl rfl <| Qc <| Xp <| QH rfl <| wM (.int .i64 i) rfl rfl <| w_d rfl (YT (c := w64 (i - 1)) rfl rfl rfl) <| wA (.int .i64 (w64 (i - 1))) rfl rfl <| Qc <| Xy <| w_sl 1 (pt b_a) rfl ?_
  refine w_sl 2 (.string t2) rfl <| w_sl 3 (.string (s ++ (scut str_3 (rd a_1 i) (w64 ((rd a_1 i) + 1))))) rfl <| w_sl 4 (.int .i64 (w64 (i - 1))) rfl <| hh.l0 (hle.trans e13) he (h_a_1.mono e13)
 ·
  refine QI rfl (df c8) <| Ya rfl <| wR rfl <| wM (.string s) rfl rfl <| wA (.string s) rfl rfl <| Qc ?_
  obtain rfl := sj he
  refine Qn fn_99 rs_99 (.tmp (v := .string s) rfl .nil) <| ⟨⟨[_], rfl⟩, hle, rfl⟩
theorem Qs.ok : ∀ k, Qs.OK (Qs.hs k)
 | 0 => ⟨(by intros; exact nomatch (show none = some _ from by assumption))⟩
 | k + 1 => ⟨Qs.b0_ok (k := k) (Qs.ok k)⟩
theorem Qs.calls (k : Nat) {H : Hp} {L : Items} {a : Qh} {v0_a : Value} {r : ByteArray} (he : Qs.f k a = some r) (h0_a : Ro kI64 H v0_a a.f_D) : Ct Tryz.prog 99 ⟨[(Qb a v0_a)]⟩ H L (fun v H' L' => L = L' ∧ H = H' ∧ v = .string r) := by
 refine Yr (O := Qs.out r) (fun _ _ h => h) ?_
 have hle : H.le H := .refl _
 have hh := Qs.ok k
 unfold Qs.f at he
 refine QZ (args := [(Qb a v0_a)]) fn_99 rfl nt_99 rfl <| wR rfl <| wB (Qb a v0_a) rfl rfl rfl <| fun b1 => wA (.string str_0) rfl rfl <| wQ rfl <| wA (.string str_0) rfl rfl <| wE <| QX ?_
 refine QH rfl <| wL (Qb a v0_a) ty37 rfl rfl .here rfl rfl <| bK he fun y2 hy3 he => w_d rfl (Xi (Qj co62 (vs := [(Qb a v0_a)]) rfl (XK.calls k (a := a) hy3 h0_a))) <| w_d rfl (XO rfl rfl) <| Qc ?_
 rcases its he with ⟨c6, he⟩ | ⟨c6, he⟩
 ·
  refine QB rfl (dt c6) <| QH rfl <| wA (.string str_1) rfl rfl <| Qc <| w_sl 1 (pt b1) rfl <| w_sl 2 (.string str_0) rfl <| w_sl 3 (.string str_1) rfl <| Qs.j1_ok (k := k) hh hle he h0_a
 ·
  refine QI rfl (df c6) <| QF <| w_sl 1 (pt b1) rfl <| w_sl 2 (.string str_0) rfl <| w_sl 3 (.string str_0) rfl <| Qs.j1_ok (k := k) hh hle he h0_a
noncomputable def Xr.C : Code := (Tryz.f147.body).getD .skip
def Xr.out (r : Bool) (H : Hp) (v : Value) : Prop := v = .bool r
abbrev Xr.R (H0 : Hp) (L : Items) (r : Bool) := fR H0 L (Xr.out r)
structure Xr.Hs where
 l0 : Bool → (List Int) → Int → Int → Option Bool
noncomputable def Xr.b0 (k : Nat) (h : Xr.Hs) (t2 : Bool) (t24 : List Int) (t25 t26 : Int) : Option Bool := if t26 < t25 then (if (0 : Int) ≤ t26 ∧ t26 < (t24.length : Int) then (if ((decide ((rd t24 t26) < 48)) || (decide (57 < (rd t24 t26)))) = true then (some (false)) else (h.l0 t2 t24 t25 (w64 (t26 + 1)))) else none) else (some (true))
noncomputable def Xr.hs : Nat → Xr.Hs
 | 0 => ⟨fun _ _ _ _ => none⟩
 | k + 1 => ⟨fun x0 x1 x2 x3 => Xr.b0 k (Xr.hs k) x0 x1 x2 x3⟩
noncomputable def Xr.f (k : Nat) (s : ByteArray) : Option Bool := (fun h : Xr.Hs => if (!((decide ((s.size : Int) = 0)) || (decide (1300 < (s.size : Int))))) = true → (0 : Int) ≤ 0 ∧ 0 < (s.size : Int) then (if (((decide ((s.size : Int) = 0)) || (decide (1300 < (s.size : Int)))) || ((decide ((bt s 0) = 48)) && (decide (1 < (s.size : Int))))) = true then (some (false)) else (h.l0 false (bytesOf s) ((bytesOf s).length : Int) 0)) else none) (Xr.hs k)
noncomputable def Xr.Kl0 : List Item := .code (lopB (blkB (seqR (seqL (seqR (seqR Xr.C)))))) :: .inLoop (lopB (blkB (seqR (seqL (seqR (seqR Xr.C)))))) :: .inBlock 0 :: .code (seqR (seqR (seqR Xr.C))) :: []
structure Xr.OK (h : Xr.Hs) : Prop where
 l0 : ∀ {H0 H : Hp} {L : Items} {r : Bool} {jk_ : Nat → Value} {t2 : Bool} {t24 : List Int} {t25 : Int} {t26 : Int} {v_t24 : Value} (_ : H0.le H) (_he : h.l0 t2 t24 t25 t26 = some r) (_h_t24 : Ro kU8 H v_t24 t24), Wp Tryz.prog 147 37 Xr.Kl0 (upd (upd (upd (upd jk_ 2 (.bool t2)) 24 (v_t24)) 25 (.int .i64 t25)) 26 (.int .i64 t26)) H (L) (Xr.R H0 L r)
theorem Xr.b0_ok {k : Nat} {h : Xr.Hs} (hh : Xr.OK h) {H0 H : Hp} {L : Items} {r : Bool} {jk_ : Nat → Value} {t2 : Bool} {t24 : List Int} {t25 t26 : Int} {v_t24 : Value} (hle : H0.le H) (he : Xr.b0 k h t2 t24 t25 t26 = some r) (h_t24 : Ro kU8 H v_t24 t24) : Wp Tryz.prog 147 37 Xr.Kl0 (upd (upd (upd (upd jk_ 2 (.bool t2)) 24 (v_t24)) 25 (.int .i64 t25)) 26 (.int .i64 t26)) H (L) (Xr.R H0 L r) := by
 unfold Xr.b0 at he
 unfold Xr.Kl0
 refine wR rfl <| w_d rfl (XO rfl rfl) <| wE ?_
 rcases its he with ⟨c18, he⟩ | ⟨c18, he⟩
 ·
  refine QB rfl (dt c18) <| QF <| QX <| Q8 <| wR rfl <| rK he fun c19 he => w_d rfl (XT (sz := 1) Tryz.underlying52 sz5 rfl h_t24.src rfl c19) <| w_d rfl (XX ty5 rfl h_t24.src c19) <| wA (.int .u8 (rd t24 t26)) rfl rfl <| wE ?_
  refine QH rfl <| wM (.int .u8 (rd t24 t26)) rfl rfl <| w_d rfl (XO rfl rfl) <| wM (.bool (decide ((rd t24 t26) < 48))) rfl rfl <| w_g (g := !(decide ((rd t24 t26) < 48))) rfl rfl rfl wn_f (fun g20 => QR (v := .int .u8 (rd t24 t26)) rfl) <| w_g (g := !(decide ((rd t24 t26) < 48))) rfl rfl rfl wn_f (fun g21 => Zi (cvt g21) rfl) <| w_d rfl (d_or' (b := (decide ((rd t24 t26) < 48))) (p := (decide (57 < (rd t24 t26)))) rfl rfl rfl) <| Qc ?_
  rcases its he with ⟨c22, he⟩ | ⟨c22, he⟩
  ·
   refine QB rfl c22 <| wR rfl <| wA (.bool false) rfl rfl <| Qc ?_
   obtain rfl := sj he
   refine Qn fn_147 rs_147 (.tmp (v := .bool false) rfl .nil) <| ⟨⟨[], rfl⟩, hle, rfl⟩
  ·
   refine QI rfl (Bool.eq_false_iff.2 c22) <| QF <| Xp <| QH rfl <| w_d rfl (XG (c := w64 (t26 + 1)) rfl rfl rfl) <| wM (.int .i64 (w64 (t26 + 1))) rfl rfl <| Qc <| Xy <| w_sl 2 (.bool t2) rfl <| w_sl 24 (v_t24) rfl <| w_sl 25 (.int .i64 t25) rfl <| w_sl 26 (.int .i64 (w64 (t26 + 1))) rfl <| hh.l0 hle he h_t24
 ·
  refine QI rfl (df c18) <| Ya rfl <| wR rfl <| wA (.bool true) rfl rfl <| Qc ?_
  obtain rfl := sj he
  refine Qn fn_147 rs_147 (.tmp (v := .bool true) rfl .nil) <| ⟨⟨[], rfl⟩, hle, rfl⟩
theorem Xr.ok : ∀ k, Xr.OK (Xr.hs k)
 | 0 => ⟨(by intros; exact nomatch (show none = some _ from by assumption))⟩
 | k + 1 => ⟨Xr.b0_ok (k := k) (Xr.ok k)⟩
theorem Xr.calls (k : Nat) {H : Hp} {L : Items} {s : ByteArray} {r : Bool} (he : Xr.f k s = some r) : Ct Tryz.prog 147 ⟨[.string s]⟩ H L (fun v H' L' => L = L' ∧ H = H' ∧ v = .bool r) := by
 refine Yr (O := Xr.out r) (fun _ _ h => h) ?_
 have hle : H.le H := .refl _
 have hh := Xr.ok k
 unfold Xr.f at he
 refine QZ (args := [.string s]) fn_147 rfl nt_147 rfl <| wR rfl <| wA (.bool false) rfl rfl <| wE <| wR rfl <| wM (.string s) rfl rfl <| w_d rfl (MV Tryz.underlying9 rfl) <| w_d rfl (Zb rfl rfl) <| wM (.bool (decide ((s.size : Int) = 0))) rfl rfl ?_
 refine w_g (g := !(decide ((s.size : Int) = 0))) rfl rfl rfl wn_f (fun g1 => QR (v := .string s) rfl) <| w_g (g := !(decide ((s.size : Int) = 0))) rfl rfl rfl wn_f (fun g2 => MV Tryz.underlying9 (cvt g2)) <| w_g (g := !(decide ((s.size : Int) = 0))) rfl rfl rfl wn_f (fun g3 => Zi (cvt g3) rfl) <| w_d rfl (d_or' (b := (decide ((s.size : Int) = 0))) (p := (decide (1300 < (s.size : Int)))) rfl rfl rfl) <| wM (.bool ((decide ((s.size : Int) = 0)) || (decide (1300 < (s.size : Int))))) rfl rfl <| w_g (g := !((decide ((s.size : Int) = 0)) || (decide (1300 < (s.size : Int))))) rfl rfl rfl wn_f (fun g4 => QR (v := .string s) rfl) <| rK he fun c6 he => w_g (g := !((decide ((s.size : Int) = 0)) || (decide (1300 < (s.size : Int))))) rfl rfl rfl wn_f (fun g5 => d_bt Tryz.underlying9 (cvt g5) rfl (c6 g5)) <| w_g (g := !((decide ((s.size : Int) = 0)) || (decide (1300 < (s.size : Int))))) rfl rfl rfl wn_f (fun g7 => Zb (cvt g7) rfl) <| w_g (g := !((decide ((s.size : Int) = 0)) || (decide (1300 < (s.size : Int))))) rfl rfl rfl wn_f (fun g8 => QR (v := .bool (decide ((bt s 0) = 48))) (cvt g8)) <| w_g (g := (!((decide ((s.size : Int) = 0)) || (decide (1300 < (s.size : Int))))) && (decide ((bt s 0) = 48))) rfl rfl rfl MQ (fun g9 => QR (v := .string s) rfl) <| w_g (g := (!((decide ((s.size : Int) = 0)) || (decide (1300 < (s.size : Int))))) && (decide ((bt s 0) = 48))) rfl rfl rfl MQ (fun g10 => MV Tryz.underlying9 (cvt g10)) ?_
 refine w_g (g := (!((decide ((s.size : Int) = 0)) || (decide (1300 < (s.size : Int))))) && (decide ((bt s 0) = 48))) rfl rfl rfl MQ (fun g11 => Zi (cvt g11) rfl) <| w_g (g := !((decide ((s.size : Int) = 0)) || (decide (1300 < (s.size : Int))))) rfl rfl rfl wn_f (fun g12 => d_and' (b := (decide ((bt s 0) = 48))) (p := (decide (1 < (s.size : Int)))) (cvt g12) (cva g12) rfl) <| w_d rfl (d_or' (b := ((decide ((s.size : Int) = 0)) || (decide (1300 < (s.size : Int))))) (p := ((decide ((bt s 0) = 48)) && (decide (1 < (s.size : Int))))) rfl rfl rfl) <| Qc ?_
 rcases its he with ⟨c13, he⟩ | ⟨c13, he⟩
 ·
  refine QB rfl c13 <| wR rfl <| wA (.bool false) rfl rfl <| Qc ?_
  obtain rfl := sj he
  refine Qn fn_147 rs_147 (.tmp (v := .bool false) rfl .nil) <| ⟨⟨[], rfl⟩, hle, rfl⟩
 ·
  refine QI rfl (Bool.eq_false_iff.2 c13) <| QF <| QX <| wR rfl <| wM (.string s) rfl rfl <| w_a rfl (OU Tryz.underlying9 Tryz.underlying52 Tryz.underlying5 rfl) ?_
  rintro v14 H15 _ ⟨rfl, e16, h17⟩
  refine w_d rfl (XL Tryz.underlying52 rfl h17.src) <| wM (.int .i64 0) rfl rfl <| Qc <| Q8 <| Ye <| w_sl 2 (.bool false) rfl <| w_sl 24 (v14) rfl <| w_sl 25 (.int .i64 ((bytesOf s).length : Int)) rfl <| w_sl 26 (.int .i64 0) rfl <| hh.l0 (hle.trans e16) he h17
noncomputable def QK.C : Code := (Tryz.f145.body).getD .skip
abbrev QK.out (r : (List Int)) (H : Hp) (v : Value) : Prop := Ro kU32 H v r
abbrev QK.R (H0 : Hp) (L : Items) (r : (List Int)) := fR H0 L (QK.out r)
structure QK.Hs where
 l0 : (List Int) → (List Int) → (List Int) → Int → Int → Option (List Int)
 l1 : (List Int) → (List Int) → Int → Int → Int → (List Int) → Int → Int → (List Int) → Int → Int → Option (List Int)
noncomputable def QK.b0 (k : Nat) (h : QK.Hs) (b out t18 : List Int) (t19 t20 : Int) : Option (List Int) := if t20 < t19 then (if (0 : Int) ≤ t20 ∧ t20 < (t18.length : Int) then (h.l1 b out t20 (rd t18 t20) 0 t18 t19 t20 b (b.length : Int) 0) else none) else (some (out))
noncomputable def QK.b1 (k : Nat) (h : QK.Hs) (b out : List Int) (i x carry : Int) (t18 : List Int) (t19 t20 : Int) (t25 : List Int) (t26 t27 : Int) : Option (List Int) := if t27 < t26 then (if (0 : Int) ≤ t27 ∧ t27 < (t25.length : Int) then (if (0 : Int) ≤ w64 (i + t27) ∧ w64 (i + t27) < (out.length : Int) then (if (0 : Int) ≤ w64 (i + t27) ∧ w64 (i + t27) < (out.length : Int) then (h.l1 b (out.set (w64 (i + t27) : Int).toNat (((((((((x) % 18446744073709551616) * ((rd t25 t27) % 18446744073709551616)) % 18446744073709551616) + ((rd out (w64 (i + t27))) % 18446744073709551616)) % 18446744073709551616) + carry) % 18446744073709551616) % 4294967296)) i x (((((((((x) % 18446744073709551616) * ((rd t25 t27) % 18446744073709551616)) % 18446744073709551616) + ((rd out (w64 (i + t27))) % 18446744073709551616)) % 18446744073709551616) + carry) % 18446744073709551616) / 4294967296) t18 t19 t20 t25 t26 (w64 (t27 + 1))) else none) else none) else none) else (if (0 : Int) ≤ w64 (i + (b.length : Int)) ∧ w64 (i + (b.length : Int)) < (out.length : Int) then (h.l0 b (out.set (w64 (i + (b.length : Int)) : Int).toNat ((carry) % 4294967296)) t18 t19 (w64 (t20 + 1))) else none)
noncomputable def QK.hs : Nat → QK.Hs
 | 0 => ⟨fun _ _ _ _ _ => none, fun _ _ _ _ _ _ _ _ _ _ _ => none⟩
 | k + 1 => ⟨fun x0 x1 x2 x3 x4 => QK.b0 k (QK.hs k) x0 x1 x2 x3 x4, fun x0 x1 x2 x3 x4 x5 x6 x7 x8 x9 x10 => QK.b1 k (QK.hs k) x0 x1 x2 x3 x4 x5 x6 x7 x8 x9 x10⟩
noncomputable def QK.f (k : Nat) (a b : List Int) : Option (List Int) := (fun h : QK.Hs => if 0 ≤ w64 ((a.length : Int) + (b.length : Int)) ∧ w64 ((a.length : Int) + (b.length : Int)) ≤ 70368744177664 then (h.l0 b (List.replicate (w64 ((a.length : Int) + (b.length : Int)) : Int).toNat (0 : Int)) a (a.length : Int) 0) else none) (QK.hs k)
structure QK.LE (h h' : QK.Hs) : Prop where
 l0 : ∀ y0 y1 y2 y3 y4, LeO (h.l0 y0 y1 y2 y3 y4) (h'.l0 y0 y1 y2 y3 y4)
 l1 : ∀ y0 y1 y2 y3 y4 y5 y6 y7 y8 y9 y10, LeO (h.l1 y0 y1 y2 y3 y4 y5 y6 y7 y8 y9 y10) (h'.l1 y0 y1 y2 y3 y4 y5 y6 y7 y8 y9 y10)
theorem QK.b0_mono {k : Nat} {h h' : QK.Hs} (hl : QK.LE h h') : ∀ y0 y1 y2 y3 y4, LeO (QK.b0 k h y0 y1 y2 y3 y4) (QK.b0 (k + 1) h' y0 y1 y2 y3 y4) := fun _ _ _ _ _ => (LeO.ite (LeO.ite (hl.l1 _ _ _ _ _ _ _ _ _ _ _) (LeO.refl _)) (LeO.refl _))
theorem QK.b1_mono {k : Nat} {h h' : QK.Hs} (hl : QK.LE h h') : ∀ y0 y1 y2 y3 y4 y5 y6 y7 y8 y9 y10, LeO (QK.b1 k h y0 y1 y2 y3 y4 y5 y6 y7 y8 y9 y10) (QK.b1 (k + 1) h' y0 y1 y2 y3 y4 y5 y6 y7 y8 y9 y10) := fun _ _ _ _ _ _ _ _ _ _ _ => (LeO.ite (LeO.ite (LeO.ite (LeO.ite (hl.l1 _ _ _ _ _ _ _ _ _ _ _) (LeO.refl _)) (LeO.refl _)) (LeO.refl _)) (LeO.ite (hl.l0 _ _ _ _ _) (LeO.refl _)))
theorem QK.hs_mono : ∀ k, QK.LE (QK.hs k) (QK.hs (k + 1))
 | 0 => ⟨fun _ _ _ _ _ => LeO.none _, fun _ _ _ _ _ _ _ _ _ _ _ => LeO.none _⟩
 | k + 1 => ⟨QK.b0_mono (k := k) (QK.hs_mono k), QK.b1_mono (k := k) (QK.hs_mono k)⟩
theorem QK.mono : ∀ k y0 y1, LeO (QK.f k y0 y1) (QK.f (k + 1) y0 y1) := fun k _ _ => have hl := QK.hs_mono k; by unfold QK.f; exact (LeO.ite (hl.l0 _ _ _ _ _) (LeO.refl _))
noncomputable def QK.Kl0 : List Item := .code (lopB (blkB (seqR (seqL (seqR (seqR QK.C)))))) :: .inLoop (lopB (blkB (seqR (seqL (seqR (seqR QK.C)))))) :: .inBlock 0 :: .code (seqR (seqR (seqR QK.C))) :: []
noncomputable def QK.Kl1 : List Item := .code (lopB (blkB (seqR (seqL (seqR (seqR (blkB (seqL (seqR (seqR (lopB (blkB (seqR (seqL (seqR (seqR QK.C)))))))))))))))) :: .inLoop (lopB (blkB (seqR (seqL (seqR (seqR (blkB (seqL (seqR (seqR (lopB (blkB (seqR (seqL (seqR (seqR QK.C)))))))))))))))) :: .inBlock 2 :: .code (seqR (seqR (seqR (blkB (seqL (seqR (seqR (lopB (blkB (seqR (seqL (seqR (seqR QK.C))))))))))))) :: .inBlock 1 :: .code (seqR (seqR (seqR (lopB (blkB (seqR (seqL (seqR (seqR QK.C))))))))) :: .inLoop (lopB (blkB (seqR (seqL (seqR (seqR QK.C)))))) :: .inBlock 0 :: .code (seqR (seqR (seqR QK.C))) :: []
structure QK.OK (h : QK.Hs) : Prop where
 l0 : ∀ {H0 H : Hp} {L : Items} {r : (List Int)} {jk_ : Nat → Value} {b : List Int} {out : List Int} {t18 : List Int} {t19 : Int} {t20 : Int} {v_b : Value} {v_out : Value} {v_t18 : Value} {i_out : Item'} (_ : H0.le H) (_he : h.l0 b out t18 t19 t20 = some r) (_h_b : Src kU32 H L v_b b) (_h_out : Sl kU32 H 167 i_out v_out out) (_h_t18 : Src kU32 H L v_t18 t18), Wp Tryz.prog 145 67 QK.Kl0 (upd (upd (upd (upd (upd (upd jk_ 1 (v_b)) 4 (.slice none 0 0)) 5 (v_out)) 18 (v_t18)) 19 (.int .i64 t19)) 20 (.int .i64 t20)) H (i_out :: L) (QK.R H0 L r)
 l1 : ∀ {H0 H : Hp} {L : Items} {r : (List Int)} {jk_ : Nat → Value} {b : List Int} {out : List Int} {i : Int} {x : Int} {carry : Int} {t18 : List Int} {t19 : Int} {t20 : Int} {t25 : List Int} {t26 : Int} {t27 : Int} {v_b : Value} {v_out : Value} {v_t18 : Value} {v_t25 : Value} {i_out : Item'} (_ : H0.le H) (_he : h.l1 b out i x carry t18 t19 t20 t25 t26 t27 = some r) (_h_b : Src kU32 H L v_b b) (_h_out : Sl kU32 H 167 i_out v_out out) (_h_t18 : Src kU32 H L v_t18 t18) (_h_t25 : Src kU32 H L v_t25 t25), Wp Tryz.prog 145 67 QK.Kl1 (upd (upd (upd (upd (upd (upd (upd (upd (upd (upd (upd (upd jk_ 1 (v_b)) 4 (.slice none 0 0)) 5 (v_out)) 6 (.int .i64 i)) 7 (.int .u32 x)) 8 (.int .u64 carry)) 18 (v_t18)) 19 (.int .i64 t19)) 20 (.int .i64 t20)) 25 (v_t25)) 26 (.int .i64 t26)) 27 (.int .i64 t27)) H (i_out :: L) (QK.R H0 L r)
theorem QK.b0_ok {k : Nat} {h : QK.Hs} (hh : QK.OK h) {H0 H : Hp} {L : Items} {r : (List Int)} {jk_ : Nat → Value} {b out t18 : List Int} {t19 t20 : Int} {v_b v_out v_t18 : Value} {i_out : Item'} (hle : H0.le H) (he : QK.b0 k h b out t18 t19 t20 = some r) (h_b : Src kU32 H L v_b b) (h_out : Sl kU32 H 167 i_out v_out out) (h_t18 : Src kU32 H L v_t18 t18) : Wp Tryz.prog 145 67 QK.Kl0 (upd (upd (upd (upd (upd (upd jk_ 1 (v_b)) 4 (.slice none 0 0)) 5 (v_out)) 18 (v_t18)) 19 (.int .i64 t19)) 20 (.int .i64 t20)) H (i_out :: L) (QK.R H0 L r) := by
 unfold QK.b0 at he
 unfold QK.Kl0
 refine wR rfl <| w_d rfl (XO rfl rfl) <| wE ?_
 rcases its he with ⟨c5, he⟩ | ⟨c5, he⟩
 ·
  refine QB rfl (dt c5) <| QF <| QX <| Q8 <| wR rfl <| wM (.int .i64 t20) rfl rfl <| rK he fun c6 he => w_d rfl (XT (sz := 1) Tryz.underlying22 sz167 rfl h_t18.th rfl c6) <| w_d rfl (XX ty167 rfl h_t18.th c6) <| wA (.int .i64 t20) rfl rfl <| wA (.int .u32 (rd t18 t20)) rfl rfl ?_
  refine wQ rfl <| wA (.int .u64 0) rfl rfl <| wE <| wR rfl <| wM v_b rfl rfl <| w_d rfl (XL Tryz.underlying22 rfl h_b.th) <| wM (.int .i64 0) rfl rfl <| Qc ?_
  refine Q8 <| Ye <| w_sl 1 (v_b) rfl <| w_sl 4 (.slice none 0 0) rfl <| w_sl 5 (v_out) rfl <| w_sl 6 (.int .i64 t20) rfl <| w_sl 7 (.int .u32 (rd t18 t20)) rfl <| w_sl 8 (.int .u64 0) rfl <| w_sl 18 (v_t18) rfl <| w_sl 19 (.int .i64 t19) rfl <| w_sl 20 (.int .i64 t20) rfl <| w_sl 25 (v_b) rfl ?_
  refine w_sl 26 (.int .i64 (b.length : Int)) rfl <| w_sl 27 (.int .i64 0) rfl <| hh.l1 hle he h_b h_out h_t18 h_b
 ·
  refine QI rfl (df c5) <| Ya rfl <| wR rfl <| wM v_out rfl rfl <| wA v_out rfl rfl <| Qc <| Y8 h_out .here ?_
  intro H7 e8 h9
  obtain rfl := sj he
  refine Qn fn_145 rs_145 (.tmp (v := v_out) rfl .nil) <| ⟨⟨[_], rfl⟩, hle.trans e8, h9⟩
theorem QK.b1_ok {k : Nat} {h : QK.Hs} (hh : QK.OK h) {H0 H : Hp} {L : Items} {r : (List Int)} {jk_ : Nat → Value} {b out : List Int} {i x carry : Int} {t18 : List Int} {t19 t20 : Int} {t25 : List Int} {t26 t27 : Int} {v_b v_out v_t18 v_t25 : Value} {i_out : Item'} (hle : H0.le H) (he : QK.b1 k h b out i x carry t18 t19 t20 t25 t26 t27 = some r) (h_b : Src kU32 H L v_b b) (h_out : Sl kU32 H 167 i_out v_out out) (h_t18 : Src kU32 H L v_t18 t18) (h_t25 : Src kU32 H L v_t25 t25) : Wp Tryz.prog 145 67 QK.Kl1 (upd (upd (upd (upd (upd (upd (upd (upd (upd (upd (upd (upd jk_ 1 (v_b)) 4 (.slice none 0 0)) 5 (v_out)) 6 (.int .i64 i)) 7 (.int .u32 x)) 8 (.int .u64 carry)) 18 (v_t18)) 19 (.int .i64 t19)) 20 (.int .i64 t20)) 25 (v_t25)) 26 (.int .i64 t26)) 27 (.int .i64 t27)) H (i_out :: L) (QK.R H0 L r) := by
 unfold QK.b1 at he
 unfold QK.Kl1
 refine wR rfl <| w_d rfl (XO rfl rfl) <| wE ?_
 rcases its he with ⟨c10, he⟩ | ⟨c10, he⟩
 ·
  refine QB rfl (dt c10) <| QF <| QX <| Q8 <| wR rfl <| wM (.int .i64 t27) rfl rfl <| rK he fun c11 he => w_d rfl (XT (sz := 1) Tryz.underlying22 sz167 rfl h_t25.th rfl c11) <| w_d rfl (XX ty167 rfl h_t25.th c11) <| wA (.int .i64 t27) rfl rfl <| wA (.int .u32 (rd t25 t27)) rfl rfl ?_
  refine wQ rfl <| wM (.int .u32 x) rfl rfl <| w_d rfl (Yd (c := (x) % 18446744073709551616) Tryz.underlying167 Tryz.underlying113 rfl rfl) <| wM (.int .u32 (rd t25 t27)) rfl rfl <| w_d rfl (Yd (c := (rd t25 t27) % 18446744073709551616) Tryz.underlying167 Tryz.underlying113 rfl rfl) <| w_d rfl (NC (c := (((x) % 18446744073709551616) * ((rd t25 t27) % 18446744073709551616)) % 18446744073709551616) rfl rfl rfl) <| wM v_out rfl rfl <| wM (.int .i64 i) rfl rfl <| wM (.int .i64 t27) rfl rfl <| w_d rfl (XG (c := w64 (i + t27)) rfl rfl rfl) ?_
  refine rK he fun c12 he => w_d rfl (Y0 (sz := 1) Tryz.underlying22 sz167 rfl h_out.shp rfl c12) <| w_d rfl (XX ty167 rfl (h_out.src .here) c12) <| w_d rfl (Yd (c := (rd out (w64 (i + t27))) % 18446744073709551616) Tryz.underlying167 Tryz.underlying113 rfl rfl) <| w_d rfl (XG (c := (((((x) % 18446744073709551616) * ((rd t25 t27) % 18446744073709551616)) % 18446744073709551616) + ((rd out (w64 (i + t27))) % 18446744073709551616)) % 18446744073709551616) rfl rfl rfl) <| wM (.int .u64 carry) rfl rfl <| w_d rfl (XG (c := (((((((x) % 18446744073709551616) * ((rd t25 t27) % 18446744073709551616)) % 18446744073709551616) + ((rd out (w64 (i + t27))) % 18446744073709551616)) % 18446744073709551616) + carry) % 18446744073709551616) rfl rfl rfl) <| wA (.int .u64 ((((((((x) % 18446744073709551616) * ((rd t25 t27) % 18446744073709551616)) % 18446744073709551616) + ((rd out (w64 (i + t27))) % 18446744073709551616)) % 18446744073709551616) + carry) % 18446744073709551616)) rfl rfl <| wQ rfl <| wM v_out rfl rfl ?_
  refine wM (.int .i64 i) rfl rfl <| wM (.int .i64 t27) rfl rfl <| w_d rfl (XG (c := w64 (i + t27)) rfl rfl rfl) <| wM (.int .u64 ((((((((x) % 18446744073709551616) * ((rd t25 t27) % 18446744073709551616)) % 18446744073709551616) + ((rd out (w64 (i + t27))) % 18446744073709551616)) % 18446744073709551616) + carry) % 18446744073709551616)) rfl rfl <| w_d rfl (Yd (c := ((((((((x) % 18446744073709551616) * ((rd t25 t27) % 18446744073709551616)) % 18446744073709551616) + ((rd out (w64 (i + t27))) % 18446744073709551616)) % 18446744073709551616) + carry) % 18446744073709551616) % 4294967296) Tryz.underlying113 Tryz.underlying167 rfl rfl) <| rK he fun c13 he => w_d rfl (Y0 (sz := 1) Tryz.underlying22 sz167 rfl h_out.shp rfl c13) <| w_a0 rfl (Zn (kd := kU32) (v := .int .u32 (((((((((x) % 18446744073709551616) * ((rd t25 t27) % 18446744073709551616)) % 18446744073709551616) + ((rd out (w64 (i + t27))) % 18446744073709551616)) % 18446744073709551616) + carry) % 18446744073709551616) % 4294967296)) (F := fun z_ => z_ :: L) sz167 rfl rfl rfl rfl h_out c13 (fun _ => .here)) ?_
  rintro _ _ _ ⟨i14, rfl, rfl, rfl, h15⟩
  refine Qc <| QH rfl <| wM (.int .u64 ((((((((x) % 18446744073709551616) * ((rd t25 t27) % 18446744073709551616)) % 18446744073709551616) + ((rd out (w64 (i + t27))) % 18446744073709551616)) % 18446744073709551616) + carry) % 18446744073709551616)) rfl rfl <| w_d rfl (Ju (c := ((((((((x) % 18446744073709551616) * ((rd t25 t27) % 18446744073709551616)) % 18446744073709551616) + ((rd out (w64 (i + t27))) % 18446744073709551616)) % 18446744073709551616) + carry) % 18446744073709551616) / 4294967296) rfl rfl (by decide) rfl) <| wA (.int .u64 (((((((((x) % 18446744073709551616) * ((rd t25 t27) % 18446744073709551616)) % 18446744073709551616) + ((rd out (w64 (i + t27))) % 18446744073709551616)) % 18446744073709551616) + carry) % 18446744073709551616) / 4294967296)) rfl rfl <| Qc <| Xp <| QH rfl <| w_d rfl (XG (c := w64 (t27 + 1)) rfl rfl rfl) <| wM (.int .i64 (w64 (t27 + 1))) rfl rfl <| Qc <| Xy ?_
  refine w_sl 1 (v_b) rfl <| w_sl 4 (.slice none 0 0) rfl <| w_sl 5 (v_out) rfl <| w_sl 6 (.int .i64 i) rfl <| w_sl 7 (.int .u32 x) rfl <| w_sl 8 (.int .u64 (((((((((x) % 18446744073709551616) * ((rd t25 t27) % 18446744073709551616)) % 18446744073709551616) + ((rd out (w64 (i + t27))) % 18446744073709551616)) % 18446744073709551616) + carry) % 18446744073709551616) / 4294967296)) rfl <| w_sl 18 (v_t18) rfl <| w_sl 19 (.int .i64 t19) rfl <| w_sl 20 (.int .i64 t20) rfl <| w_sl 25 (v_t25) rfl <| w_sl 26 (.int .i64 t26) rfl <| w_sl 27 (.int .i64 (w64 (t27 + 1))) rfl <| hh.l1 hle he h_b h15 h_t18 h_t25
 ·
  refine QI rfl (df c10) <| Ya rfl <| QH rfl <| wM v_out rfl rfl <| wM (.int .i64 i) rfl rfl <| wM v_b rfl rfl <| w_d rfl (XL Tryz.underlying22 rfl h_b.th) <| w_d rfl (XG (c := w64 (i + (b.length : Int))) rfl rfl rfl) <| wM (.int .u64 carry) rfl rfl <| w_d rfl (Yd (c := (carry) % 4294967296) Tryz.underlying113 Tryz.underlying167 rfl rfl) <| rK he fun c16 he => w_d rfl (Y0 (sz := 1) Tryz.underlying22 sz167 rfl h_out.shp rfl c16) ?_
  refine w_a0 rfl (Zn (kd := kU32) (v := .int .u32 ((carry) % 4294967296)) (F := fun z_ => z_ :: L) sz167 rfl rfl rfl rfl h_out c16 (fun _ => .here)) ?_
  rintro _ _ _ ⟨i17, rfl, rfl, rfl, h18⟩
  refine Qc <| Xp <| QH rfl <| w_d rfl (XG (c := w64 (t20 + 1)) rfl rfl rfl) <| wM (.int .i64 (w64 (t20 + 1))) rfl rfl <| Qc <| Xy <| w_sl 1 (v_b) rfl <| w_sl 4 (.slice none 0 0) rfl <| w_sl 5 (v_out) rfl <| w_sl 18 (v_t18) rfl <| w_sl 19 (.int .i64 t19) rfl ?_
  refine w_sl 20 (.int .i64 (w64 (t20 + 1))) rfl <| hh.l0 hle he h_b h18 h_t18
theorem QK.ok : ∀ k, QK.OK (QK.hs k)
 | 0 => ⟨(by intros; exact nomatch (show none = some _ from by assumption)), (by intros; exact nomatch (show none = some _ from by assumption))⟩
 | k + 1 => ⟨QK.b0_ok (k := k) (QK.ok k), QK.b1_ok (k := k) (QK.ok k)⟩
theorem QK.calls (k : Nat) {H : Hp} {L : Items} {a b : List Int} {v0_a v1_b : Value} {r : (List Int)} (he : QK.f k a b = some r) (h0_a : Src kU32 H L v0_a a) (h1_b : Src kU32 H L v1_b b) : Ct Tryz.prog 145 ⟨[v0_a, v1_b]⟩ H L (cR H L (QK.out r)) := by
 refine XS (O := QK.out r) ?_
 have hle : H.le H := .refl _
 have hh := QK.ok k
 unfold QK.f at he
 refine QZ (args := [v0_a, v1_b]) fn_145 rfl nt_145 rfl <| wR rfl <| wA (.slice none 0 0) rfl rfl <| wQ rfl <| wM v0_a rfl rfl <| w_d rfl (XL Tryz.underlying22 rfl h0_a) <| wM v1_b rfl rfl <| w_d rfl (XL Tryz.underlying22 rfl h1_b) <| w_d rfl (XG (c := w64 ((a.length : Int) + (b.length : Int))) rfl rfl rfl) ?_
 refine rK he fun c1 he => w_a rfl (o_make' (kd := kU32) (z0 := 0) Tryz.underlying22 ti167 (zp167 _) rfl rfl (by omega) (by omega) (by omega)) ?_
 rintro v2 _ _ ⟨i3, rfl, rfl, h4⟩
 refine wA v2 rfl rfl <| wE <| wR rfl <| wM v0_a rfl rfl <| w_d rfl (XL Tryz.underlying22 rfl h0_a.th) <| wM (.int .i64 0) rfl rfl <| Qc <| Q8 <| Ye <| w_sl 1 (v1_b) rfl ?_
 refine w_sl 4 (.slice none 0 0) rfl <| w_sl 5 (v2) rfl <| w_sl 18 (v0_a) rfl <| w_sl 19 (.int .i64 (a.length : Int)) rfl <| w_sl 20 (.int .i64 0) rfl <| hh.l0 hle he h1_b h4 h0_a
noncomputable def Q3.C : Code := (Tryz.f113.body).getD .skip
abbrev Q3.out (r : (List Int)) (H : Hp) (v : Value) : Prop := Ro kU32 H v r
abbrev Q3.R (H0 : Hp) (L : Items) (r : (List Int)) := fR H0 L (Q3.out r)
structure Q3.Hs where
 l0 : (List Int) → Option (List Int)
noncomputable def Q3.b0 (k : Nat) (h : Q3.Hs) (w : List Int) : Option (List Int) := if (decide (0 < (w.length : Int))) = true → (0 : Int) ≤ w64 ((w.length : Int) - 1) ∧ w64 ((w.length : Int) - 1) < (w.length : Int) then (if ((decide (0 < (w.length : Int))) && (decide ((rd w (w64 ((w.length : Int) - 1))) = 0))) = true then (if (0 : Int) ≤ 0 ∧ (0 : Int) ≤ w64 ((w.length : Int) - 1) ∧ w64 ((w.length : Int) - 1) ≤ (w.length : Int) then (h.l0 (cut w 0 (w64 ((w.length : Int) - 1)))) else none) else (some (w))) else none
noncomputable def Q3.hs : Nat → Q3.Hs
 | 0 => ⟨fun _ => none⟩
 | k + 1 => ⟨fun x0 => Q3.b0 k (Q3.hs k) x0⟩
noncomputable def Q3.f (k : Nat) (w : List Int) : Option (List Int) := (fun h : Q3.Hs => h.l0 w) (Q3.hs k)
structure Q3.LE (h h' : Q3.Hs) : Prop where
 l0 : ∀ y0, LeO (h.l0 y0) (h'.l0 y0)
theorem Q3.b0_mono {k : Nat} {h h' : Q3.Hs} (hl : Q3.LE h h') : ∀ y0, LeO (Q3.b0 k h y0) (Q3.b0 (k + 1) h' y0) := fun _ => (LeO.ite (LeO.ite (LeO.ite (hl.l0 _) (LeO.refl _)) (LeO.refl _)) (LeO.refl _))
theorem Q3.hs_mono : ∀ k, Q3.LE (Q3.hs k) (Q3.hs (k + 1))
 | 0 => ⟨fun _ => LeO.none _⟩
 | k + 1 => ⟨Q3.b0_mono (k := k) (Q3.hs_mono k)⟩
theorem Q3.mono : ∀ k y0, LeO (Q3.f k y0) (Q3.f (k + 1) y0) := fun k _ => have hl := Q3.hs_mono k; by unfold Q3.f; exact (hl.l0 _)
noncomputable def Q3.Kl0 : List Item := .code (lopB (blkB (seqL (seqR Q3.C)))) :: .inLoop (lopB (blkB (seqL (seqR Q3.C)))) :: .inBlock 0 :: .code (seqR (seqR Q3.C)) :: []
structure Q3.OK (h : Q3.Hs) : Prop where
 l0 : ∀ {H0 H : Hp} {L : Items} {r : (List Int)} {jk_ : Nat → Value} {w : List Int} {v_w : Value} (_ : H0.le H) (_he : h.l0 w = some r) (_h_w : Ro kU32 H v_w w), Wp Tryz.prog 113 21 Q3.Kl0 (upd (upd jk_ 0 (v_w)) 2 (.slice none 0 0)) H (L) (Q3.R H0 L r)
theorem Q3.b0_ok {k : Nat} {h : Q3.Hs} (hh : Q3.OK h) {H0 H : Hp} {L : Items} {r : (List Int)} {jk_ : Nat → Value} {w : List Int} {v_w : Value} (hle : H0.le H) (he : Q3.b0 k h w = some r) (h_w : Ro kU32 H v_w w) : Wp Tryz.prog 113 21 Q3.Kl0 (upd (upd jk_ 0 (v_w)) 2 (.slice none 0 0)) H (L) (Q3.R H0 L r) := by
 unfold Q3.b0 at he
 unfold Q3.Kl0
 refine QX <| wR rfl <| wM v_w rfl rfl <| w_d rfl (XL Tryz.underlying22 rfl h_w.src) <| w_d rfl (Zi rfl rfl) <| wM (.bool (decide (0 < (w.length : Int)))) rfl rfl <| w_g (g := decide (0 < (w.length : Int))) rfl rfl rfl wn_t (fun g1 => QR (v := v_w) rfl) <| w_g (g := decide (0 < (w.length : Int))) rfl rfl rfl wn_t (fun g2 => QR (v := v_w) rfl) <| w_g (g := decide (0 < (w.length : Int))) rfl rfl rfl wn_t (fun g3 => XL Tryz.underlying22 (cvt g3) h_w.src) <| w_g (g := decide (0 < (w.length : Int))) rfl rfl rfl wn_t (fun g4 => YT (c := w64 ((w.length : Int) - 1)) (cvt g4) rfl rfl) <| rK he fun c6 he => ?_
 refine w_g (g := decide (0 < (w.length : Int))) rfl rfl rfl wn_t (fun g5 => XT (sz := 1) Tryz.underlying22 sz167 (cvt g5) h_w.src (cvt g5) (c6 g5)) <| w_g (g := decide (0 < (w.length : Int))) rfl rfl rfl wn_t (fun g7 => XX ty167 (cvt g7) h_w.src (c6 g7)) <| w_g (g := decide (0 < (w.length : Int))) rfl rfl rfl wn_t (fun g8 => Zb (cvt g8) rfl) <| w_d rfl (d_and' (b := (decide (0 < (w.length : Int)))) (p := (decide ((rd w (w64 ((w.length : Int) - 1))) = 0))) rfl rfl rfl) <| Qc ?_
 rcases its he with ⟨c9, he⟩ | ⟨c9, he⟩
 ·
  refine QB rfl c9 <| QF <| Q8 <| QH rfl <| wM v_w rfl rfl <| wM v_w rfl rfl <| w_d rfl (XL Tryz.underlying22 rfl h_w.src) <| w_d rfl (YT (c := w64 ((w.length : Int) - 1)) rfl rfl rfl) <| rK he fun c10 he => w_a rfl (JX (kd := kU32) Tryz.underlying22 sz167 rfl h_w (.inl ⟨rfl, rfl⟩) (.inr ⟨_, _, rfl, rfl⟩) c10) ?_
  rintro v11 _ _ ⟨h12, rfl, rfl⟩
  refine wA v11 rfl rfl <| Qc <| Xp <| Xy <| w_sl 0 (v11) rfl <| w_sl 2 (.slice none 0 0) rfl <| hh.l0 hle he h12
 ·
  refine QI rfl (Bool.eq_false_iff.2 c9) <| Ya rfl <| wR rfl <| wM v_w rfl rfl <| wA v_w rfl rfl <| Qc ?_
  obtain rfl := sj he
  refine Qn fn_113 rs_113 (.tmp (v := v_w) rfl .nil) <| ⟨⟨[], rfl⟩, hle, h_w⟩
theorem Q3.ok : ∀ k, Q3.OK (Q3.hs k)
 | 0 => ⟨(by intros; exact nomatch (show none = some _ from by assumption))⟩
 | k + 1 => ⟨Q3.b0_ok (k := k) (Q3.ok k)⟩
theorem Q3.calls (k : Nat) {H : Hp} {L : Items} {w : List Int} {v0_w : Value} {r : (List Int)} (he : Q3.f k w = some r) (h0_w : Ro kU32 H v0_w w) : Ct Tryz.prog 113 ⟨[v0_w]⟩ H L (cR H L (Q3.out r)) := by
 refine XS (O := Q3.out r) ?_
 have hle : H.le H := .refl _
 have hh := Q3.ok k
 unfold Q3.f at he
 refine QZ (args := [v0_w]) fn_113 rfl nt_113 rfl <| wR rfl <| wA (.slice none 0 0) rfl rfl <| wE <| Q8 <| Ye <| w_sl 0 (v0_w) rfl <| w_sl 2 (.slice none 0 0) rfl <| hh.l0 hle he h0_w
noncomputable def Qz.C : Code := (Tryz.f144.body).getD .skip
abbrev Qz.out (r : (List Int)) (H : Hp) (v : Value) : Prop := Ro kU32 H v r
abbrev Qz.R (H0 : Hp) (L : Items) (r : (List Int)) := fR H0 L (Qz.out r)
structure Qz.Hs where
 l0 : (List Int) → (List Int) → Int → (List Int) → Int → Int → Option (List Int)
noncomputable def Qz.j1 (k : Nat) (h : Qz.Hs) (a b : List Int) : Option (List Int) := if 0 ≤ 0 ∧ 0 ≤ w64 ((a.length : Int) + 1) ∧ w64 ((a.length : Int) + 1) ≤ 70368744177664 then (h.l0 b (List.replicate (0 : Int).toNat (0 : Int)) 0 a (a.length : Int) 0) else none
noncomputable def Qz.j3 (k : Nat) (h : Qz.Hs) (b out : List Int) (carry s : Int) (t21 : List Int) (t22 t23 : Int) : Option (List Int) := if out.length + 1 ≤ 35184372088704 then (h.l0 b (out ++ [(s) % 4294967296]) (s / 4294967296) t21 t22 (w64 (t23 + 1))) else none
noncomputable def Qz.b0 (k : Nat) (h : Qz.Hs) (b out : List Int) (carry : Int) (t21 : List Int) (t22 t23 : Int) : Option (List Int) := if t23 < t22 then (if (0 : Int) ≤ t23 ∧ t23 < (t21.length : Int) then (if t23 < (b.length : Int) then (if (0 : Int) ≤ t23 ∧ t23 < (b.length : Int) then (Qz.j3 k h b out carry ((((((rd t21 t23) % 18446744073709551616) + carry) % 18446744073709551616) + ((rd b t23) % 18446744073709551616)) % 18446744073709551616) t21 t22 t23) else none) else (Qz.j3 k h b out carry ((((rd t21 t23) % 18446744073709551616) + carry) % 18446744073709551616) t21 t22 t23)) else none) else (if out.length + 1 ≤ 35184372088704 then (some (out ++ [(carry) % 4294967296])) else none)
noncomputable def Qz.hs : Nat → Qz.Hs
 | 0 => ⟨fun _ _ _ _ _ _ => none⟩
 | k + 1 => ⟨fun x0 x1 x2 x3 x4 x5 => Qz.b0 k (Qz.hs k) x0 x1 x2 x3 x4 x5⟩
noncomputable def Qz.f (k : Nat) (a b : List Int) : Option (List Int) := (fun h : Qz.Hs => if (a.length : Int) < (b.length : Int) then (Qz.j1 k h b a) else (Qz.j1 k h a b)) (Qz.hs k)
structure Qz.LE (h h' : Qz.Hs) : Prop where
 l0 : ∀ y0 y1 y2 y3 y4 y5, LeO (h.l0 y0 y1 y2 y3 y4 y5) (h'.l0 y0 y1 y2 y3 y4 y5)
theorem Qz.j1_mono {k : Nat} {h h' : Qz.Hs} (hl : Qz.LE h h') : ∀ y0 y1, LeO (Qz.j1 k h y0 y1) (Qz.j1 (k + 1) h' y0 y1) := fun _ _ => (LeO.ite (hl.l0 _ _ _ _ _ _) (LeO.refl _))
theorem Qz.j3_mono {k : Nat} {h h' : Qz.Hs} (hl : Qz.LE h h') : ∀ y0 y1 y2 y3 y4 y5 y6, LeO (Qz.j3 k h y0 y1 y2 y3 y4 y5 y6) (Qz.j3 (k + 1) h' y0 y1 y2 y3 y4 y5 y6) := fun _ _ _ _ _ _ _ => (LeO.ite (hl.l0 _ _ _ _ _ _) (LeO.refl _))
theorem Qz.b0_mono {k : Nat} {h h' : Qz.Hs} (hl : Qz.LE h h') : ∀ y0 y1 y2 y3 y4 y5, LeO (Qz.b0 k h y0 y1 y2 y3 y4 y5) (Qz.b0 (k + 1) h' y0 y1 y2 y3 y4 y5) := fun _ _ _ _ _ _ => (LeO.ite (LeO.ite (LeO.ite (LeO.ite (Qz.j3_mono (k := k) hl _ _ _ _ _ _ _) (LeO.refl _)) (Qz.j3_mono (k := k) hl _ _ _ _ _ _ _)) (LeO.refl _)) (LeO.ite (LeO.refl _) (LeO.refl _)))
theorem Qz.hs_mono : ∀ k, Qz.LE (Qz.hs k) (Qz.hs (k + 1))
 | 0 => ⟨fun _ _ _ _ _ _ => LeO.none _⟩
 | k + 1 => ⟨Qz.b0_mono (k := k) (Qz.hs_mono k)⟩
theorem Qz.mono : ∀ k y0 y1, LeO (Qz.f k y0 y1) (Qz.f (k + 1) y0 y1) := fun k _ _ => have hl := Qz.hs_mono k; by unfold Qz.f; exact (LeO.ite (Qz.j1_mono (k := k) hl _ _) (Qz.j1_mono (k := k) hl _ _))
noncomputable def Qz.Kj1 : List Item := .code (seqR (seqR Qz.C)) :: []
noncomputable def Qz.Kl0 : List Item := .code (lopB (blkB (seqR (seqL (seqR (seqR (seqR (seqR Qz.C)))))))) :: .inLoop (lopB (blkB (seqR (seqL (seqR (seqR (seqR (seqR Qz.C)))))))) :: .inBlock 0 :: .code (seqR (seqR (seqR (seqR (seqR Qz.C))))) :: []
noncomputable def Qz.Kj3 : List Item := .code (seqR (seqR (seqR (blkB (seqL (seqR (seqR (lopB (blkB (seqR (seqL (seqR (seqR (seqR (seqR Qz.C))))))))))))))) :: .inBlock 1 :: .code (seqR (seqR (seqR (lopB (blkB (seqR (seqL (seqR (seqR (seqR (seqR Qz.C))))))))))) :: .inLoop (lopB (blkB (seqR (seqL (seqR (seqR (seqR (seqR Qz.C)))))))) :: .inBlock 0 :: .code (seqR (seqR (seqR (seqR (seqR Qz.C))))) :: []
structure Qz.OK (h : Qz.Hs) : Prop where
 l0 : ∀ {H0 H : Hp} {L : Items} {r : (List Int)} {jk_ : Nat → Value} {b : List Int} {out : List Int} {carry : Int} {t21 : List Int} {t22 : Int} {t23 : Int} {v_b : Value} {v_out : Value} {v_t21 : Value} {i_out : Item'} (_ : H0.le H) (_he : h.l0 b out carry t21 t22 t23 = some r) (_h_b : Src kU32 H L v_b b) (_h_out : Sl kU32 H 167 i_out v_out out) (_h_t21 : Src kU32 H L v_t21 t21), Wp Tryz.prog 144 56 Qz.Kl0 (upd (upd (upd (upd (upd (upd (upd jk_ 1 (v_b)) 4 (.slice none 0 0)) 5 (v_out)) 6 (.int .u64 carry)) 21 (v_t21)) 22 (.int .i64 t22)) 23 (.int .i64 t23)) H (i_out :: L) (Qz.R H0 L r)
theorem Qz.j1_ok {k : Nat} {h : Qz.Hs} (hh : Qz.OK h) {H0 H : Hp} {L : Items} {r : (List Int)} {jk_ : Nat → Value} {a b : List Int} {v_a v_b : Value} (hle : H0.le H) (he : Qz.j1 k h a b = some r) (h_a : Src kU32 H L v_a a) (h_b : Src kU32 H L v_b b) : Wp Tryz.prog 144 56 Qz.Kj1 (upd (upd (upd jk_ 0 (v_a)) 1 (v_b)) 4 (.slice none 0 0)) H (L) (Qz.R H0 L r) := by
 unfold Qz.j1 at he
 unfold Qz.Kj1
 refine wR rfl <| wM v_a rfl rfl <| w_d rfl (XL Tryz.underlying22 rfl h_a) <| w_d rfl (XG (c := w64 ((a.length : Int) + 1)) rfl rfl rfl) <| rK he fun c2 he => w_a rfl (o_make' (kd := kU32) (z0 := 0) Tryz.underlying22 ti167 (zp167 _) rfl rfl (by omega) (by omega) (by omega)) ?_
 rintro v3 _ _ ⟨i4, rfl, rfl, h5⟩
 refine wA v3 rfl rfl <| wQ rfl <| wA (.int .u64 0) rfl rfl <| wE <| wR rfl <| wM v_a rfl rfl <| w_d rfl (XL Tryz.underlying22 rfl h_a.th) <| wM (.int .i64 0) rfl rfl ?_
 refine Qc <| Q8 <| Ye <| w_sl 1 (v_b) rfl <| w_sl 4 (.slice none 0 0) rfl <| w_sl 5 (v3) rfl <| w_sl 6 (.int .u64 0) rfl <| w_sl 21 (v_a) rfl <| w_sl 22 (.int .i64 (a.length : Int)) rfl <| w_sl 23 (.int .i64 0) rfl <| hh.l0 hle he h_b h5 h_a
theorem Qz.j3_ok {k : Nat} {h : Qz.Hs} (hh : Qz.OK h) {H0 H : Hp} {L : Items} {r : (List Int)} {jk_ : Nat → Value} {b out : List Int} {carry s : Int} {t21 : List Int} {t22 t23 : Int} {v_b v_out v_t21 : Value} {i_out : Item'} (hle : H0.le H) (he : Qz.j3 k h b out carry s t21 t22 t23 = some r) (h_b : Src kU32 H L v_b b) (h_out : Sl kU32 H 167 i_out v_out out) (h_t21 : Src kU32 H L v_t21 t21) : Wp Tryz.prog 144 56 Qz.Kj3 (upd (upd (upd (upd (upd (upd (upd (upd jk_ 1 (v_b)) 4 (.slice none 0 0)) 5 (v_out)) 6 (.int .u64 carry)) 9 (.int .u64 s)) 21 (v_t21)) 22 (.int .i64 t22)) 23 (.int .i64 t23)) H (i_out :: L) (Qz.R H0 L r) := by
 unfold Qz.j3 at he
 unfold Qz.Kj3
 refine wR rfl <| wM v_out rfl rfl <| wM (.int .u64 s) rfl rfl <| w_d rfl (Yd (c := (s) % 4294967296) Tryz.underlying113 Tryz.underlying167 rfl rfl) <| w_a rfl (o_buildSlice' (kd := kU32) (css := [[.int .u32 ((s) % 4294967296)]]) (xs := [(s) % 4294967296]) (parts := [(0, .int .u32 ((s) % 4294967296))]) Tryz.underlying22 ti167 rfl ⟨_, _, rfl, rfl, rfl⟩ ⟨rfl, trivial⟩ rfl (by decide)) ?_
 rintro v20 _ _ ⟨i21, rfl, rfl, h22⟩
 refine rK he fun c23 he => w_a rfl (o_append' (kd := kU32) (F := fun z_ => i21 :: z_ :: L) Tryz.underlying22 Tryz.underlying22 ti167 rfl (by first | omega | (simp only [List.nil_append, List.length_cons, List.length_nil]; omega)) rfl rfl h_out (h22.src .here) (fun _ => .h1)) ?_
 rintro v24 _ _ ⟨i25, rfl, rfl, h26⟩
 refine wA v24 rfl rfl <| Qc <| QH rfl <| wM (.int .u64 s) rfl rfl <| w_d rfl (Ju (c := s / 4294967296) rfl rfl (by decide) rfl) <| wA (.int .u64 (s / 4294967296)) rfl rfl <| Qc <| Xp <| QH rfl <| w_d rfl (XG (c := w64 (t23 + 1)) rfl rfl rfl) <| wM (.int .i64 (w64 (t23 + 1))) rfl rfl <| Qc ?_
 refine Xy <| Yw .here <| w_sl 1 (v_b) rfl <| w_sl 4 (.slice none 0 0) rfl <| w_sl 5 (v24) rfl <| w_sl 6 (.int .u64 (s / 4294967296)) rfl <| w_sl 21 (v_t21) rfl <| w_sl 22 (.int .i64 t22) rfl <| w_sl 23 (.int .i64 (w64 (t23 + 1))) rfl <| hh.l0 hle he h_b h26 h_t21
theorem Qz.b0_ok {k : Nat} {h : Qz.Hs} (hh : Qz.OK h) {H0 H : Hp} {L : Items} {r : (List Int)} {jk_ : Nat → Value} {b out : List Int} {carry : Int} {t21 : List Int} {t22 t23 : Int} {v_b v_out v_t21 : Value} {i_out : Item'} (hle : H0.le H) (he : Qz.b0 k h b out carry t21 t22 t23 = some r) (h_b : Src kU32 H L v_b b) (h_out : Sl kU32 H 167 i_out v_out out) (h_t21 : Src kU32 H L v_t21 t21) : Wp Tryz.prog 144 56 Qz.Kl0 (upd (upd (upd (upd (upd (upd (upd jk_ 1 (v_b)) 4 (.slice none 0 0)) 5 (v_out)) 6 (.int .u64 carry)) 21 (v_t21)) 22 (.int .i64 t22)) 23 (.int .i64 t23)) H (i_out :: L) (Qz.R H0 L r) := by
 unfold Qz.b0 at he
 unfold Qz.Kl0
 refine wR rfl <| w_d rfl (XO rfl rfl) <| wE ?_
 rcases its he with ⟨c6, he⟩ | ⟨c6, he⟩
 ·
  refine QB rfl (dt c6) <| QF <| QX <| Q8 <| wR rfl <| wM (.int .i64 t23) rfl rfl <| rK he fun c7 he => w_d rfl (XT (sz := 1) Tryz.underlying22 sz167 rfl h_t21.th rfl c7) <| w_d rfl (XX ty167 rfl h_t21.th c7) <| wA (.int .i64 t23) rfl rfl <| wA (.int .u32 (rd t21 t23)) rfl rfl ?_
  refine wQ rfl <| wM (.int .u32 (rd t21 t23)) rfl rfl <| w_d rfl (Yd (c := (rd t21 t23) % 18446744073709551616) Tryz.underlying167 Tryz.underlying113 rfl rfl) <| wM (.int .u64 carry) rfl rfl <| w_d rfl (XG (c := (((rd t21 t23) % 18446744073709551616) + carry) % 18446744073709551616) rfl rfl rfl) <| wA (.int .u64 ((((rd t21 t23) % 18446744073709551616) + carry) % 18446744073709551616)) rfl rfl <| wE <| wR rfl ?_
  refine wM (.int .i64 t23) rfl rfl <| wM v_b rfl rfl <| w_d rfl (XL Tryz.underlying22 rfl h_b.th) <| w_d rfl (XO rfl rfl) <| Qc ?_
  rcases its he with ⟨c8, he⟩ | ⟨c8, he⟩
  ·
   refine QB rfl (dt c8) <| QH rfl <| wM (.int .u64 ((((rd t21 t23) % 18446744073709551616) + carry) % 18446744073709551616)) rfl rfl <| wM v_b rfl rfl <| wM (.int .i64 t23) rfl rfl <| rK he fun c9 he => w_d rfl (XT (sz := 1) Tryz.underlying22 sz167 rfl h_b.th rfl c9) <| w_d rfl (XX ty167 rfl h_b.th c9) <| w_d rfl (Yd (c := (rd b t23) % 18446744073709551616) Tryz.underlying167 Tryz.underlying113 rfl rfl) <| w_d rfl (XG (c := (((((rd t21 t23) % 18446744073709551616) + carry) % 18446744073709551616) + ((rd b t23) % 18446744073709551616)) % 18446744073709551616) rfl rfl rfl) <| wA (.int .u64 ((((((rd t21 t23) % 18446744073709551616) + carry) % 18446744073709551616) + ((rd b t23) % 18446744073709551616)) % 18446744073709551616)) rfl rfl <| Qc ?_
   refine w_sl 1 (v_b) rfl <| w_sl 4 (.slice none 0 0) rfl <| w_sl 5 (v_out) rfl <| w_sl 6 (.int .u64 carry) rfl <| w_sl 9 (.int .u64 ((((((rd t21 t23) % 18446744073709551616) + carry) % 18446744073709551616) + ((rd b t23) % 18446744073709551616)) % 18446744073709551616)) rfl <| w_sl 21 (v_t21) rfl <| w_sl 22 (.int .i64 t22) rfl <| w_sl 23 (.int .i64 t23) rfl <| Qz.j3_ok (k := k) hh hle he h_b h_out h_t21
  ·
   refine QI rfl (df c8) <| QF <| w_sl 1 (v_b) rfl <| w_sl 4 (.slice none 0 0) rfl <| w_sl 5 (v_out) rfl <| w_sl 6 (.int .u64 carry) rfl <| w_sl 9 (.int .u64 ((((rd t21 t23) % 18446744073709551616) + carry) % 18446744073709551616)) rfl <| w_sl 21 (v_t21) rfl <| w_sl 22 (.int .i64 t22) rfl <| w_sl 23 (.int .i64 t23) rfl <| Qz.j3_ok (k := k) hh hle he h_b h_out h_t21
 ·
  refine QI rfl (df c6) <| Ya rfl <| wR rfl <| wM v_out rfl rfl <| wM (.int .u64 carry) rfl rfl <| w_d rfl (Yd (c := (carry) % 4294967296) Tryz.underlying113 Tryz.underlying167 rfl rfl) <| w_a rfl (o_buildSlice' (kd := kU32) (css := [[.int .u32 ((carry) % 4294967296)]]) (xs := [(carry) % 4294967296]) (parts := [(0, .int .u32 ((carry) % 4294967296))]) Tryz.underlying22 ti167 rfl ⟨_, _, rfl, rfl, rfl⟩ ⟨rfl, trivial⟩ rfl (by decide)) ?_
  rintro v10 _ _ ⟨i11, rfl, rfl, h12⟩
  refine rK he fun c13 he => w_a rfl (o_append' (kd := kU32) (F := fun z_ => i11 :: z_ :: L) Tryz.underlying22 Tryz.underlying22 ti167 rfl (by first | omega | (simp only [List.nil_append, List.length_cons, List.length_nil]; omega)) rfl rfl h_out (h12.src .here) (fun _ => .h1)) ?_
  rintro v14 _ _ ⟨i15, rfl, rfl, h16⟩
  refine wA v14 rfl rfl <| Qc <| Y8 h16 .h1 ?_
  intro H17 e18 h19
  obtain rfl := sj he
  refine Qn fn_144 rs_144 (.tmp (v := v14) rfl .nil) <| ⟨⟨[_, _], rfl⟩, hle.trans e18, h19⟩
theorem Qz.ok : ∀ k, Qz.OK (Qz.hs k)
 | 0 => ⟨(by intros; exact nomatch (show none = some _ from by assumption))⟩
 | k + 1 => ⟨Qz.b0_ok (k := k) (Qz.ok k)⟩
theorem Qz.calls (k : Nat) {H : Hp} {L : Items} {a b : List Int} {v0_a v1_b : Value} {r : (List Int)} (he : Qz.f k a b = some r) (h0_a : Src kU32 H L v0_a a) (h1_b : Src kU32 H L v1_b b) : Ct Tryz.prog 144 ⟨[v0_a, v1_b]⟩ H L (cR H L (Qz.out r)) := by
 refine XS (O := Qz.out r) ?_
 have hle : H.le H := .refl _
 have hh := Qz.ok k
 unfold Qz.f at he
 refine QZ (args := [v0_a, v1_b]) fn_144 rfl nt_144 rfl <| wR rfl <| wA (.slice none 0 0) rfl rfl <| wE <| wR rfl <| wM v0_a rfl rfl <| w_d rfl (XL Tryz.underlying22 rfl h0_a) <| wM v1_b rfl rfl <| w_d rfl (XL Tryz.underlying22 rfl h1_b) ?_
 refine w_d rfl (XO rfl rfl) <| Qc ?_
 rcases its he with ⟨c1, he⟩ | ⟨c1, he⟩
 ·
  refine QB rfl (dt c1) <| QH rfl <| wM v1_b rfl rfl <| wM v0_a rfl rfl <| wA v1_b rfl rfl <| wA v0_a rfl rfl <| Qc <| w_sl 0 (v1_b) rfl <| w_sl 1 (v0_a) rfl <| w_sl 4 (.slice none 0 0) rfl <| Qz.j1_ok (k := k) hh hle he h1_b h0_a
 ·
  refine QI rfl (df c1) <| QF <| w_sl 0 (v0_a) rfl <| w_sl 1 (v1_b) rfl <| w_sl 4 (.slice none 0 0) rfl <| Qz.j1_ok (k := k) hh hle he h0_a h1_b
noncomputable def XN.C : Code := (Tryz.f115.body).getD .skip
def XN.out (r : Qu × (Option Int)) (H : Hp) (v : Value) : Prop := ∃ v0, v = .tuple ⟨[(Qd r.1 v0), errV 104 r.2]⟩ ∧ Ro kU32 H v0 r.1.f_w
theorem XN.out_mono (r : Qu × (Option Int)) {H H' : Hp} {v : Value} (hle : H.le H') (h : XN.out r H v) : XN.out r H' v := by
 obtain ⟨v0, rfl, h0⟩ := h; exact ⟨v0, rfl, h0.mono hle⟩
noncomputable def XN.f (k : Nat) (neg : Bool) (w : List Int) : Option (Qu × (Option Int)) := (Q3.f k w).bind fun y2 => if 128 < (y2.length : Int) then (some (⟨false, []⟩, some 12)) else (some (⟨neg && (decide (0 < (y2.length : Int))), y2⟩, none))
theorem XN.mono : ∀ k y0 y1, LeO (XN.f k y0 y1) (XN.f (k + 1) y0 y1) := fun k _ _ => by unfold XN.f; exact (LeO.bind (Q3.mono k _) fun _ => LeO.ite (LeO.refl _) (LeO.refl _))
theorem XN.calls (k : Nat) {H : Hp} {L : Items} {neg : Bool} {w : List Int} {v0_w : Value} {r : Qu × (Option Int)} (he : XN.f k neg w = some r) (h0_w : Ro kU32 H v0_w w) : Ct Tryz.prog 115 ⟨[.bool neg, v0_w]⟩ H L (cR H L (XN.out r)) := by
 refine XS (O := XN.out r) ?_
 have hle : H.le H := .refl _
 unfold XN.f at he
 refine QZ (args := [.bool neg, v0_w]) fn_115 rfl nt_115 rfl <| wR rfl <| wN zr24 rfl rfl fun b1 => wA (errV 104 none) rfl rfl <| wQ rfl <| wM v0_w rfl rfl <| bK he fun y2 hy3 he => w_a rfl (Qj co113 (vs := [v0_w]) rfl (Q3.calls k hy3 h0_w)) ?_
 rintro v6 H4 _ ⟨rfl, e5, h7⟩
 refine wA v6 rfl rfl <| wE <| wR rfl <| wM v6 rfl rfl <| w_d rfl (XL Tryz.underlying22 rfl h7.src) <| w_d rfl (Zi rfl rfl) <| Qc ?_
 rcases its he with ⟨c8, he⟩ | ⟨c8, he⟩
 ·
  refine QB rfl (dt c8) <| wR rfl <| w_d rfl (Xx (cs' := [.bool false, .slice none 0 0]) Tryz.underlying24 zr24 rfl (by kernel_rfl) (parts := []) rfl .nil) <| w_d rfl (Zp (v := .int .i64 12) Tryz.underlying104 rfl rfl) <| wS (.agg ⟨[.bool false, .slice none 0 0]⟩) sz24 rfl rfl rfl rfl rfl (oc rfl (oc rfl oz)) .here u2 <| wA (errV 104 (some 12)) rfl rfl <| Qc ?_
  obtain rfl := sj he
  refine Qn fn_115 rs_115 (.box (v := .agg ⟨[.bool false, .slice none 0 0]⟩) rfl ty24 rfl rfl .here rfl (.tmp (v := errV 104 (some 12)) rfl .nil)) <| ⟨⟨[_], rfl⟩, hle.trans e5, ⟨.slice none 0 0, rfl, (Q2 _ _)⟩⟩
 ·
  refine QI rfl (df c8) <| QF <| wR rfl <| wM (.bool neg) rfl rfl <| wM (.bool neg) rfl rfl <| w_g (g := neg) rfl rfl rfl wn_t (fun g9 => QR (v := v6) rfl) <| w_g (g := neg) rfl rfl rfl wn_t (fun g10 => XL Tryz.underlying22 (cvt g10) h7.src) <| w_g (g := neg) rfl rfl rfl wn_t (fun g11 => Zi (cvt g11) rfl) <| w_d rfl (d_and' (b := neg) (p := (decide (0 < (y2.length : Int)))) rfl rfl rfl) <| wM v6 rfl rfl <| w_d rfl (Xx (cs' := [.bool (neg && (decide (0 < (y2.length : Int)))), v6]) Tryz.underlying24 zr24 rfl (by kernel_rfl) (parts := [(0, .bool (neg && (decide (0 < (y2.length : Int))))), (1, v6)]) rfl (.cons (X2 rfl sz4 rfl) rfl rfl u1 (.cons (X2 rfl sz22 rfl) h7.cells rfl (.there u1) .nil))) ?_
  refine wS (.agg ⟨[.bool (neg && (decide (0 < (y2.length : Int)))), v6]⟩) sz24 rfl rfl rfl rfl rfl (oc rfl (oc (h7.one) oz)) .here u2 <| wA (errV 104 none) rfl rfl <| Qc ?_
  obtain rfl := sj he
  refine Qn fn_115 rs_115 (.box (v := .agg ⟨[.bool (neg && (decide (0 < (y2.length : Int)))), v6]⟩) rfl ty24 rfl rfl .here rfl (.tmp (v := errV 104 none) rfl .nil)) <| ⟨⟨[_], rfl⟩, hle.trans e5, ⟨v6, rfl, h7⟩⟩
noncomputable def Xa.C : Code := (Tryz.f134.body).getD .skip
def Xa.out (r : Qu × (Option Int)) (H : Hp) (v : Value) : Prop := ∃ v0, v = .tuple ⟨[(Qd r.1 v0), errV 104 r.2]⟩ ∧ Ro kU32 H v0 r.1.f_w
abbrev Xa.R (H0 : Hp) (L : Items) (r : Qu × (Option Int)) := fR H0 L (Xa.out r)
structure Xa.Hs where
 l0 : Bool → (List Int) → (List Int) → Int → Int → Option (Qu × (Option Int))
noncomputable def Xa.j1 (k : Nat) (h : Xa.Hs) (t : ByteArray) (neg : Bool) : Option (Qu × (Option Int)) := (Xr.f k t).bind fun y8 => if ((!y8) || (neg && (decide (t = str_2)))) = true then (some (⟨false, []⟩, some 3)) else (h.l0 neg [] (bytesOf t) ((bytesOf t).length : Int) 0)
noncomputable def Xa.b0 (k : Nat) (h : Xa.Hs) (neg : Bool) (w t34 : List Int) (t35 t36 : Int) : Option (Qu × (Option Int)) := if t36 < t35 then (if (0 : Int) ≤ t36 ∧ t36 < (t34.length : Int) then ((QK.f k w [10]).bind fun y27 => (Q3.f k [(((rd t34 t36) - 48) % 256) % 4294967296]).bind fun y39 => (Qz.f k y27 y39).bind fun y45 => (Q3.f k y45).bind fun y51 => h.l0 neg y51 t34 t35 (w64 (t36 + 1))) else none) else ((XN.f k neg w).bind fun y57 => some (y57.1, y57.2))
noncomputable def Xa.hs : Nat → Xa.Hs
 | 0 => ⟨fun _ _ _ _ _ => none⟩
 | k + 1 => ⟨fun x0 x1 x2 x3 x4 => Xa.b0 k (Xa.hs k) x0 x1 x2 x3 x4⟩
noncomputable def Xa.f (k : Nat) (s : ByteArray) : Option (Qu × (Option Int)) := (fun h : Xa.Hs => if (decide (1 < (s.size : Int))) = true → (0 : Int) ≤ 0 ∧ 0 < (s.size : Int) then (if ((decide (1 < (s.size : Int))) && (decide ((bt s 0) = 45))) = true then (if (0 : Int) ≤ 1 ∧ (1 : Int) ≤ (s.size : Int) ∧ (s.size : Int) ≤ (s.size : Int) then (Xa.j1 k h (scut s 1 (s.size : Int)) ((decide (1 < (s.size : Int))) && (decide ((bt s 0) = 45)))) else none) else (Xa.j1 k h s ((decide (1 < (s.size : Int))) && (decide ((bt s 0) = 45))))) else none) (Xa.hs k)
noncomputable def Xa.Kj1 : List Item := .code (seqR (seqR (seqR (seqR Xa.C)))) :: []
noncomputable def Xa.Kl0 : List Item := .code (lopB (blkB (seqR (seqL (seqR (seqR (seqR (seqR (seqR (seqR Xa.C)))))))))) :: .inLoop (lopB (blkB (seqR (seqL (seqR (seqR (seqR (seqR (seqR (seqR Xa.C)))))))))) :: .inBlock 0 :: .code (seqR (seqR (seqR (seqR (seqR (seqR (seqR Xa.C))))))) :: []
structure Xa.OK (h : Xa.Hs) : Prop where
 l0 : ∀ {H0 H : Hp} {L : Items} {r : Qu × (Option Int)} {jk_ : Nat → Value} {neg : Bool} {w : List Int} {t34 : List Int} {t35 : Int} {t36 : Int} {v_w : Value} {v_t34 : Value} {b_t2 : Nat} (_ : H0.le H) (_he : h.l0 neg w t34 t35 t36 = some r) (_h_w : Ro kU32 H v_w w) (_h_t34 : Ro kU8 H v_t34 t34), Wp Tryz.prog 134 56 Xa.Kl0 (upd (upd (upd (upd (upd (upd (upd jk_ 2 (pt b_t2)) 3 (errV 104 none)) 5 (.bool neg)) 6 (v_w)) 34 (v_t34)) 35 (.int .i64 t35)) 36 (.int .i64 t36)) H (bx b_t2 [.bool false, .slice none 0 0] 24 :: L) (Xa.R H0 L r)
theorem Xa.j1_ok {k : Nat} {h : Xa.Hs} (hh : Xa.OK h) {H0 H : Hp} {L : Items} {r : Qu × (Option Int)} {jk_ : Nat → Value} {t : ByteArray} {neg : Bool} {b_t2 : Nat} (hle : H0.le H) (he : Xa.j1 k h t neg = some r) : Wp Tryz.prog 134 56 Xa.Kj1 (upd (upd (upd (upd jk_ 2 (pt b_t2)) 3 (errV 104 none)) 4 (.string t)) 5 (.bool neg)) H (bx b_t2 [.bool false, .slice none 0 0] 24 :: L) (Xa.R H0 L r) := by
 unfold Xa.j1 at he
 unfold Xa.Kj1
 refine QX <| wR rfl <| wM (.string t) rfl rfl <| bK he fun y8 hy9 he => w_d rfl (Xi (Qj co147 (vs := [.string t]) rfl (Xr.calls k hy9))) <| w_d rfl (Zg (b := y8) rfl) <| wM (.bool (!y8)) rfl rfl <| w_g (g := !(!y8)) rfl rfl rfl wn_f (fun g12 => QR (v := .bool neg) rfl) <| w_g (g := !(!y8)) rfl rfl rfl wn_f (fun g13 => QR (v := .bool neg) (cvt g13)) <| w_g (g := (!(!y8)) && neg) rfl rfl rfl MQ (fun g14 => QR (v := .string t) rfl) <| w_g (g := (!(!y8)) && neg) rfl rfl rfl MQ (fun g15 => JJ (cvt g15) rfl) ?_
 refine w_g (g := !(!y8)) rfl rfl rfl wn_f (fun g16 => d_and' (b := neg) (p := (decide (t = str_2))) (cvt g16) (cva g16) rfl) <| w_d rfl (d_or' (b := (!y8)) (p := (neg && (decide (t = str_2)))) rfl rfl rfl) <| Qc ?_
 rcases its he with ⟨c17, he⟩ | ⟨c17, he⟩
 ·
  refine QB rfl c17 <| wR rfl <| w_d rfl (Xx (cs' := [.bool false, .slice none 0 0]) Tryz.underlying24 zr24 rfl (by kernel_rfl) (parts := []) rfl .nil) <| w_d rfl (Zp (v := .int .i64 3) Tryz.underlying104 rfl rfl) <| wS (.agg ⟨[.bool false, .slice none 0 0]⟩) sz24 rfl rfl rfl rfl rfl (oc rfl (oc rfl oz)) .here u2 <| wA (errV 104 (some 3)) rfl rfl <| Qc ?_
  obtain rfl := sj he
  refine Qn fn_134 rs_134 (.box (v := .agg ⟨[.bool false, .slice none 0 0]⟩) rfl ty24 rfl rfl .here rfl (.tmp (v := errV 104 (some 3)) rfl .nil)) <| ⟨⟨[_], rfl⟩, hle, ⟨.slice none 0 0, rfl, (Q2 _ _)⟩⟩
 ·
  refine QI rfl (Bool.eq_false_iff.2 c17) <| QF <| wR rfl <| wA (.slice none 0 0) rfl rfl <| wE <| wR rfl <| wM (.string t) rfl rfl <| w_a rfl (OU Tryz.underlying9 Tryz.underlying52 Tryz.underlying5 rfl) ?_
  rintro v18 H19 _ ⟨rfl, e20, h21⟩
  refine w_d rfl (XL Tryz.underlying52 rfl h21.src) <| wM (.int .i64 0) rfl rfl <| Qc <| Q8 <| Ye <| w_sl 2 (pt b_t2) rfl <| w_sl 3 (errV 104 none) rfl <| w_sl 5 (.bool neg) rfl <| w_sl 6 (.slice none 0 0) rfl <| w_sl 34 (v18) rfl <| w_sl 35 (.int .i64 ((bytesOf t).length : Int)) rfl <| w_sl 36 (.int .i64 0) rfl <| hh.l0 (hle.trans e20) he (Q2 _ _) h21
theorem Xa.b0_ok {k : Nat} {h : Xa.Hs} (hh : Xa.OK h) {H0 H : Hp} {L : Items} {r : Qu × (Option Int)} {jk_ : Nat → Value} {neg : Bool} {w t34 : List Int} {t35 t36 : Int} {v_w v_t34 : Value} {b_t2 : Nat} (hle : H0.le H) (he : Xa.b0 k h neg w t34 t35 t36 = some r) (h_w : Ro kU32 H v_w w) (h_t34 : Ro kU8 H v_t34 t34) : Wp Tryz.prog 134 56 Xa.Kl0 (upd (upd (upd (upd (upd (upd (upd jk_ 2 (pt b_t2)) 3 (errV 104 none)) 5 (.bool neg)) 6 (v_w)) 34 (v_t34)) 35 (.int .i64 t35)) 36 (.int .i64 t36)) H (bx b_t2 [.bool false, .slice none 0 0] 24 :: L) (Xa.R H0 L r) := by
 unfold Xa.b0 at he
 unfold Xa.Kl0
 refine wR rfl <| w_d rfl (XO rfl rfl) <| wE ?_
 rcases its he with ⟨c22, he⟩ | ⟨c22, he⟩
 ·
  refine QB rfl (dt c22) <| QF <| QX <| Q8 <| wR rfl <| rK he fun c23 he => w_d rfl (XT (sz := 1) Tryz.underlying52 sz5 rfl h_t34.src rfl c23) <| w_d rfl (XX ty5 rfl h_t34.src c23) <| wA (.int .u8 (rd t34 t36)) rfl rfl <| Qc <| QH rfl ?_
  refine wM v_w rfl rfl <| w_a rfl (o_buildSlice' (kd := kU32) (css := [[.int .u32 10]]) (xs := [10]) (parts := [(0, .int .u32 10)]) Tryz.underlying22 ti167 rfl ⟨_, _, rfl, rfl, rfl⟩ ⟨rfl, trivial⟩ rfl (by decide)) ?_
  rintro v24 _ _ ⟨i25, rfl, rfl, h26⟩
  refine bK he fun y27 hy28 he => w_a rfl (Qj co145 (vs := [v_w, v24]) rfl (QK.calls k hy28 h_w.src (h26.src .here))) ?_
  rintro v31 H29 _ ⟨rfl, e30, h32⟩
  refine wM (.int .u8 (rd t34 t36)) rfl rfl <| w_d rfl (YT (c := ((rd t34 t36) - 48) % 256) rfl rfl rfl) <| w_d rfl (Yd (c := (((rd t34 t36) - 48) % 256) % 4294967296) Tryz.underlying5 Tryz.underlying167 rfl rfl) <| w_a rfl (o_buildSlice' (kd := kU32) (css := [[.int .u32 ((((rd t34 t36) - 48) % 256) % 4294967296)]]) (xs := [(((rd t34 t36) - 48) % 256) % 4294967296]) (parts := [(0, .int .u32 ((((rd t34 t36) - 48) % 256) % 4294967296))]) Tryz.underlying22 ti167 rfl ⟨_, _, rfl, rfl, rfl⟩ ⟨rfl, trivial⟩ rfl (by decide)) ?_
  rintro v33 _ _ ⟨i34, rfl, rfl, h35⟩
  refine Y8 h35 .here ?_
  intro H36 e37 h38
  refine bK he fun y39 hy40 he => w_a rfl (Qj co113 (vs := [v33]) rfl (Q3.calls k hy40 h38)) ?_
  rintro v43 H41 _ ⟨rfl, e42, h44⟩
  refine bK he fun y45 hy46 he => w_a rfl (Qj co144 (vs := [v31, v43]) rfl (Qz.calls k hy46 ((h32.mono (e37.trans e42)).src) h44.src)) ?_
  rintro v49 H47 _ ⟨rfl, e48, h50⟩
  refine bK he fun y51 hy52 he => w_a rfl (Qj co113 (vs := [v49]) rfl (Q3.calls k hy52 h50)) ?_
  rintro v55 H53 _ ⟨rfl, e54, h56⟩
  refine wA v55 rfl rfl <| Qc <| Xp <| QH rfl <| w_d rfl (XG (c := w64 (t36 + 1)) rfl rfl rfl) <| wM (.int .i64 (w64 (t36 + 1))) rfl rfl <| Qc <| Xy <| Yw .h1 <| Yw .here <| w_sl 2 (pt b_t2) rfl <| w_sl 3 (errV 104 none) rfl ?_
  refine w_sl 5 (.bool neg) rfl <| w_sl 6 (v55) rfl <| w_sl 34 (v_t34) rfl <| w_sl 35 (.int .i64 t35) rfl <| w_sl 36 (.int .i64 (w64 (t36 + 1))) rfl <| hh.l0 (hle.trans ((((e30.trans e37).trans e42).trans e48).trans e54)) he h56 (h_t34.mono ((((e30.trans e37).trans e42).trans e48).trans e54))
 ·
  refine QI rfl (df c22) <| Ya rfl <| wR rfl <| wM (.bool neg) rfl rfl <| wM v_w rfl rfl <| bK he fun y57 hy58 he => w_a rfl (Qj co115 (vs := [.bool neg, v_w]) rfl (XN.calls k hy58 h_w)) ?_
  rintro _ H59 _ ⟨rfl, e60, v61, rfl, h62⟩
  refine w_d rfl (QS rfl rfl) <| w_d rfl (QS rfl rfl) <| wS (Qd y57.1 v61) sz24 rfl rfl rfl rfl rfl (XF h62) .here u2 <| wA (errV 104 y57.2) rfl rfl <| Qc ?_
  obtain rfl := sj he
  refine Qn fn_134 rs_134 (.box (v := (Qd y57.1 v61)) rfl ty24 rfl rfl .here rfl (.tmp (v := errV 104 y57.2) rfl .nil)) <| ⟨⟨[_], rfl⟩, hle.trans e60, ⟨v61, rfl, h62⟩⟩
theorem Xa.ok : ∀ k, Xa.OK (Xa.hs k)
 | 0 => ⟨(by intros; exact nomatch (show none = some _ from by assumption))⟩
 | k + 1 => ⟨Xa.b0_ok (k := k) (Xa.ok k)⟩
theorem Xa.calls (k : Nat) {H : Hp} {L : Items} {s : ByteArray} {r : Qu × (Option Int)} (he : Xa.f k s = some r) : Ct Tryz.prog 134 ⟨[.string s]⟩ H L (cR H L (Xa.out r)) := by
 refine XS (O := Xa.out r) ?_
 have hle : H.le H := .refl _
 have hh := Xa.ok k
 unfold Xa.f at he
 refine QZ (args := [.string s]) fn_134 rfl nt_134 rfl <| wR rfl <| wN zr24 rfl rfl fun b1 => wA (errV 104 none) rfl rfl <| wQ rfl <| wM (.string s) rfl rfl <| wA (.string s) rfl rfl <| wE ?_
 refine QH rfl <| wM (.string s) rfl rfl <| w_d rfl (MV Tryz.underlying9 rfl) <| w_d rfl (Zi rfl rfl) <| wM (.bool (decide (1 < (s.size : Int)))) rfl rfl <| w_g (g := decide (1 < (s.size : Int))) rfl rfl rfl wn_t (fun g2 => QR (v := .string s) rfl) <| rK he fun c4 he => w_g (g := decide (1 < (s.size : Int))) rfl rfl rfl wn_t (fun g3 => d_bt Tryz.underlying9 (cvt g3) rfl (c4 g3)) <| w_g (g := decide (1 < (s.size : Int))) rfl rfl rfl wn_t (fun g5 => Zb (cvt g5) rfl) <| w_d rfl (d_and' (b := (decide (1 < (s.size : Int)))) (p := (decide ((bt s 0) = 45))) rfl rfl rfl) <| wA (.bool ((decide (1 < (s.size : Int))) && (decide ((bt s 0) = 45)))) rfl rfl <| Qc ?_
 refine QX <| wR rfl <| wM (.bool ((decide (1 < (s.size : Int))) && (decide ((bt s 0) = 45)))) rfl rfl <| Qc ?_
 rcases its he with ⟨c6, he⟩ | ⟨c6, he⟩
 ·
  refine QB rfl c6 <| QH rfl <| wM (.string s) rfl rfl <| rK he fun c7 he => w_d rfl (UZ Tryz.underlying9 rfl (.inr ⟨_, _, rfl, rfl⟩) (.inl ⟨rfl, rfl⟩) c7) <| wA (.string (scut s 1 (s.size : Int))) rfl rfl <| Qc <| w_sl 2 (pt b1) rfl <| w_sl 3 (errV 104 none) rfl <| w_sl 4 (.string (scut s 1 (s.size : Int))) rfl <| w_sl 5 (.bool ((decide (1 < (s.size : Int))) && (decide ((bt s 0) = 45)))) rfl <| Xa.j1_ok (k := k) hh hle he
 ·
  refine QI rfl (Bool.eq_false_iff.2 c6) <| QF <| w_sl 2 (pt b1) rfl <| w_sl 3 (errV 104 none) rfl <| w_sl 4 (.string s) rfl <| w_sl 5 (.bool ((decide (1 < (s.size : Int))) && (decide ((bt s 0) = 45)))) rfl <| Xa.j1_ok (k := k) hh hle he
noncomputable def XP.C : Code := (Tryz.f125.body).getD .skip
def XP.out (r : Qu) (H : Hp) (v : Value) : Prop := ∃ v0, v = (Qd r v0) ∧ Ro kU32 H v0 r.f_w
theorem XP.out_mono (r : Qu) {H H' : Hp} {v : Value} (hle : H.le H') (h : XP.out r H v) : XP.out r H' v := by
 obtain ⟨v0, rfl, h0⟩ := h; exact ⟨v0, rfl, h0.mono hle⟩
noncomputable def XP.f (k : Nat) (a : Qh) : Option Qu := (Qs.f k a).bind fun y3 => (Xa.f k y3).bind fun y7 => some (y7.1)
theorem XP.calls (k : Nat) {H : Hp} {L : Items} {a : Qh} {v0_a : Value} {r : Qu} (he : XP.f k a = some r) (h0_a : Ro kI64 H v0_a a.f_D) : Ct Tryz.prog 125 ⟨[(Qb a v0_a)]⟩ H L (cR H L (XP.out r)) := by
 refine XS (O := XP.out r) ?_
 have hle : H.le H := .refl _
 unfold XP.f at he
 refine QZ (args := [(Qb a v0_a)]) fn_125 rfl nt_125 rfl <| wR rfl <| wB (Qb a v0_a) rfl rfl rfl <| fun b1 => wN zr24 rfl rfl fun b2 => wQ rfl <| wL (Qb a v0_a) ty37 rfl rfl .h1 rfl rfl <| bK he fun y3 hy4 he => w_d rfl (Xi (Qj co99 (vs := [(Qb a v0_a)]) rfl (Qs.calls k (a := a) hy4 h0_a))) <| bK he fun y7 hy8 he => ?_
 refine w_a rfl (Qj co134 (vs := [.string y3]) rfl (Xa.calls k hy8)) ?_
 rintro _ H9 _ ⟨rfl, e10, v11, rfl, h12⟩
 refine wM (.tuple ⟨[(Qd y7.1 v11), errV 104 y7.2]⟩) rfl rfl <| w_d rfl (QS rfl rfl) <| w_d rfl (QS rfl rfl) <| wN zr24 rfl rfl fun b13 => wS (Qd y7.1 v11) sz24 rfl rfl rfl rfl rfl (XF h12) .here u2 <| wA (errV 104 y7.2) rfl rfl <| wQ rfl <| wL (Qd y7.1 v11) ty24 rfl rfl .here rfl rfl <| wS (Qd y7.1 v11) sz24 rfl rfl rfl rfl rfl (XF h12) .h1 u2 <| Qc ?_
 obtain rfl := sj he
 refine Qn fn_125 rs_125 (.box (v := (Qd y7.1 v11)) rfl ty24 rfl rfl .h1 rfl .nil) <| ⟨⟨[_, _, _], rfl⟩, hle.trans e10, ⟨v11, rfl, h12⟩⟩
noncomputable def Xt.C : Code := (Tryz.f84.body).getD .skip
def Xt.out (r : Int) (H : Hp) (v : Value) : Prop := v = .int .i64 r
noncomputable def Xt.f (k : Nat) (a : Qu) : Option Int := if (a.f_w.length : Int) = 0 then (some (0)) else (if a.f_neg = true then (some ((-1))) else (some (1)))
theorem Xt.mono : ∀ k y0, LeO (Xt.f k y0) (Xt.f (k + 1) y0) := fun k _ => by unfold Xt.f; exact (LeO.ite (LeO.refl _) (LeO.ite (LeO.refl _) (LeO.refl _)))
theorem Xt.calls (k : Nat) {H : Hp} {L : Items} {a : Qu} {v0_a : Value} {r : Int} (he : Xt.f k a = some r) (h0_a : Ro kU32 H v0_a a.f_w) : Ct Tryz.prog 84 ⟨[(Qd a v0_a)]⟩ H L (fun v H' L' => L = L' ∧ H = H' ∧ v = .int .i64 r) := by
 refine Yr (O := Xt.out r) (fun _ _ h => h) ?_
 have hle : H.le H := .refl _
 unfold Xt.f at he
 refine QZ (args := [(Qd a v0_a)]) fn_84 rfl nt_84 rfl <| wR rfl <| wB (Qd a v0_a) rfl rfl rfl <| fun b1 => wA (.int .i64 0) rfl rfl <| wE <| Q8 <| wR rfl <| w_d rfl (QM (o' := 1) Tryz.underlying24 rfl sz22 rfl rfl rfl) <| wL v0_a ty22 rfl rfl .here rfl rfl ?_
 refine w_d rfl (XL Tryz.underlying22 rfl h0_a.src) <| w_d rfl (Zb rfl rfl) <| wA (.bool (decide ((a.f_w.length : Int) = 0))) rfl rfl <| Qc ?_
 rcases its he with ⟨c2, he⟩ | ⟨c2, he⟩
 ·
  refine QB rfl (dt c2) <| wR rfl <| wA (.int .i64 0) rfl rfl <| Qc ?_
  obtain rfl := sj he
  refine Qn fn_84 rs_84 (.tmp (v := .int .i64 0) rfl .nil) <| ⟨⟨[_], rfl⟩, hle, rfl⟩
 ·
  refine QI rfl (df c2) <| wR rfl <| w_d rfl (QM (o' := 0) Tryz.underlying24 rfl sz4 rfl rfl rfl) <| wL (.bool a.f_neg) ty4 rfl rfl .here rfl rfl <| wA (.bool a.f_neg) rfl rfl <| Qc ?_
  rcases its he with ⟨c3, he⟩ | ⟨c3, he⟩
  ·
   refine QB rfl c3 <| wR rfl <| wA (.int .i64 (-1)) rfl rfl <| Qc ?_
   obtain rfl := sj he
   refine Qn fn_84 rs_84 (.tmp (v := .int .i64 (-1)) rfl .nil) <| ⟨⟨[_], rfl⟩, hle, rfl⟩
  ·
   refine QI rfl (Bool.eq_false_iff.2 c3) <| QF <| Xp <| wR rfl <| wA (.int .i64 1) rfl rfl <| Qc ?_
   obtain rfl := sj he
   refine Qn fn_84 rs_84 (.tmp (v := .int .i64 1) rfl .nil) <| ⟨⟨[_], rfl⟩, hle, rfl⟩
noncomputable def XC.C : Code := (Tryz.f121.body).getD .skip
def XC.out (r : Qu) (H : Hp) (v : Value) : Prop := ∃ v0, v = (Qd r v0) ∧ Ro kU32 H v0 r.f_w
theorem XC.out_mono (r : Qu) {H H' : Hp} {v : Value} (hle : H.le H') (h : XC.out r H v) : XC.out r H' v := by
 obtain ⟨v0, rfl, h0⟩ := h; exact ⟨v0, rfl, h0.mono hle⟩
noncomputable def XC.f (k : Nat) (a : Qu) : Option Qu := some (⟨(!a.f_neg) && (decide (0 < (a.f_w.length : Int))), a.f_w⟩)
theorem XC.mono : ∀ k y0, LeO (XC.f k y0) (XC.f (k + 1) y0) := fun k _ => by unfold XC.f; exact (LeO.refl _)
theorem XC.calls (k : Nat) {H : Hp} {L : Items} {a : Qu} {v0_a : Value} {r : Qu} (he : XC.f k a = some r) (h0_a : Ro kU32 H v0_a a.f_w) : Ct Tryz.prog 121 ⟨[(Qd a v0_a)]⟩ H L (cR H L (XC.out r)) := by
 refine XS (O := XC.out r) ?_
 have hle : H.le H := .refl _
 unfold XC.f at he
 refine QZ (args := [(Qd a v0_a)]) fn_121 rfl nt_121 rfl <| wR rfl <| wB (Qd a v0_a) rfl rfl rfl <| fun b1 => wN zr24 rfl rfl fun b2 => wQ rfl <| w_d rfl (QM (o' := 0) Tryz.underlying24 rfl sz4 rfl rfl rfl) <| wL (.bool a.f_neg) ty4 rfl rfl .h1 rfl rfl <| w_d rfl (Zg (b := a.f_neg) rfl) <| wM (.bool (!a.f_neg)) rfl rfl ?_
 refine w_g (g := !a.f_neg) rfl rfl rfl wn_t (fun g3 => QM (o' := 1) Tryz.underlying24 rfl sz22 rfl rfl rfl) <| w_g (g := !a.f_neg) rfl rfl rfl wn_t (fun g4 => Qq (v := v0_a) ty22 (cvt g4) .h1 rfl rfl rfl rfl) <| w_g (g := !a.f_neg) rfl rfl rfl wn_t (fun g5 => XL Tryz.underlying22 (cvt g5) h0_a.src) <| w_g (g := !a.f_neg) rfl rfl rfl wn_t (fun g6 => Zi (cvt g6) rfl) <| w_d rfl (d_and' (b := (!a.f_neg)) (p := (decide (0 < (a.f_w.length : Int)))) rfl rfl rfl) <| w_d rfl (QM (o' := 1) Tryz.underlying24 rfl sz22 rfl rfl rfl) <| wL v0_a ty22 rfl rfl .h1 rfl rfl <| w_d rfl (Xx (cs' := [.bool ((!a.f_neg) && (decide (0 < (a.f_w.length : Int)))), v0_a]) Tryz.underlying24 zr24 rfl (by kernel_rfl) (parts := [(0, .bool ((!a.f_neg) && (decide (0 < (a.f_w.length : Int))))), (1, v0_a)]) rfl (.cons (X2 rfl sz4 rfl) rfl rfl u1 (.cons (X2 rfl sz22 rfl) h0_a.cells rfl (.there u1) .nil))) <| wS (.agg ⟨[.bool ((!a.f_neg) && (decide (0 < (a.f_w.length : Int)))), v0_a]⟩) sz24 rfl rfl rfl rfl rfl (oc rfl (oc (h0_a.one) oz)) .here u2 <| Qc ?_
 obtain rfl := sj he
 refine Qn fn_121 rs_121 (.box (v := .agg ⟨[.bool ((!a.f_neg) && (decide (0 < (a.f_w.length : Int)))), v0_a]⟩) rfl ty24 rfl rfl .here rfl .nil) <| ⟨⟨[_, _], rfl⟩, hle, ⟨v0_a, rfl, h0_a⟩⟩
noncomputable def YO.C : Code := (Tryz.f123.body).getD .skip
def YO.out (r : Qu) (H : Hp) (v : Value) : Prop := ∃ v0, v = (Qd r v0) ∧ Ro kU32 H v0 r.f_w
theorem YO.out_mono (r : Qu) {H H' : Hp} {v : Value} (hle : H.le H') (h : YO.out r H v) : YO.out r H' v := by
 obtain ⟨v0, rfl, h0⟩ := h; exact ⟨v0, rfl, h0.mono hle⟩
noncomputable def YO.f (k : Nat) (a : Qu) : Option Qu := (Xt.f k a).bind fun y3 => if y3 < 0 then ((XC.f k a).bind fun y8 => some (y8)) else (some (a))
theorem YO.mono : ∀ k y0, LeO (YO.f k y0) (YO.f (k + 1) y0) := fun k _ => by unfold YO.f; exact (LeO.bind (Xt.mono k _) fun _ => LeO.ite (LeO.bind (XC.mono k _) fun _ => LeO.refl _) (LeO.refl _))
theorem YO.calls (k : Nat) {H : Hp} {L : Items} {a : Qu} {v0_a : Value} {r : Qu} (he : YO.f k a = some r) (h0_a : Ro kU32 H v0_a a.f_w) : Ct Tryz.prog 123 ⟨[(Qd a v0_a)]⟩ H L (cR H L (YO.out r)) := by
 refine XS (O := YO.out r) ?_
 have hle : H.le H := .refl _
 unfold YO.f at he
 refine QZ (args := [(Qd a v0_a)]) fn_123 rfl nt_123 rfl <| wR rfl <| wB (Qd a v0_a) rfl rfl rfl <| fun b1 => wN zr24 rfl rfl fun b2 => wE <| wR rfl <| wL (Qd a v0_a) ty24 rfl rfl .h1 rfl rfl <| bK he fun y3 hy4 he => w_d rfl (Xi (Qj co84 (vs := [(Qd a v0_a)]) rfl (Xt.calls k (a := a) hy4 h0_a))) ?_
 refine w_d rfl (XO rfl rfl) <| Qc ?_
 rcases its he with ⟨c7, he⟩ | ⟨c7, he⟩
 ·
  refine QB rfl (dt c7) <| wR rfl <| wL (Qd a v0_a) ty24 rfl rfl .h1 rfl rfl <| bK he fun y8 hy9 he => w_a rfl (Qj co121 (vs := [(Qd a v0_a)]) rfl (XC.calls k (a := a) hy9 h0_a)) ?_
  rintro _ H10 _ ⟨rfl, e11, v12, rfl, h13⟩
  refine wS (Qd y8 v12) sz24 rfl rfl rfl rfl rfl (XF h13) .here u2 <| Qc ?_
  obtain rfl := sj he
  refine Qn fn_123 rs_123 (.box (v := (Qd y8 v12)) rfl ty24 rfl rfl .here rfl .nil) <| ⟨⟨[_, _], rfl⟩, hle.trans e11, ⟨v12, rfl, h13⟩⟩
 ·
  refine QI rfl (df c7) <| QF <| wR rfl <| wL (Qd a v0_a) ty24 rfl rfl .h1 rfl rfl <| wS (Qd a v0_a) sz24 rfl rfl rfl rfl rfl (XF h0_a) .here u2 <| Qc ?_
  obtain rfl := sj he
  refine Qn fn_123 rs_123 (.box (v := (Qd a v0_a)) rfl ty24 rfl rfl .here rfl .nil) <| ⟨⟨[_, _], rfl⟩, hle, ⟨v0_a, rfl, h0_a⟩⟩
noncomputable def YA.C : Code := (Tryz.f153.body).getD .skip
def YA.out (r : Bool) (H : Hp) (v : Value) : Prop := v = .bool r
noncomputable def YA.f (k : Nat) (x : Int) : Option Bool := some (!decide (x = x))
theorem YA.mono : ∀ k y0, LeO (YA.f k y0) (YA.f (k + 1) y0) := fun k _ => by unfold YA.f; exact (LeO.refl _)
theorem YA.calls (k : Nat) {H : Hp} {L : Items} {x : Int} {r : Bool} (he : YA.f k x = some r) : Ct Tryz.prog 153 ⟨[.int .i64 x]⟩ H L (fun v H' L' => L = L' ∧ H = H' ∧ v = .bool r) := by
 refine Yr (O := YA.out r) (fun _ _ h => h) ?_
 have hle : H.le H := .refl _
 unfold YA.f at he
 refine QZ (args := [.int .i64 x]) fn_153 rfl nt_153 rfl <| wR rfl <| wA (.bool false) rfl rfl <| wQ rfl <| wM (.int .i64 x) rfl rfl <| wM (.int .i64 x) rfl rfl <| w_d rfl (Jx rfl rfl) <| wA (.bool (!decide (x = x))) rfl rfl <| Qc ?_
 obtain rfl := sj he
 refine Qn fn_153 rs_153 (.tmp (v := .bool (!decide (x = x))) rfl .nil) <| ⟨⟨[], rfl⟩, hle, rfl⟩
noncomputable def Yh.C : Code := (Tryz.f136.body).getD .skip
def Yh.out (r : Int) (H : Hp) (v : Value) : Prop := v = .int .i64 r
noncomputable def Yh.f (k : Nat) (x y : Int) : Option Int := (YA.f k x).bind fun y1 => (YA.f k y).bind fun y5 => if y1 = true then (if y5 = true then (some (0)) else (some ((-1)))) else (if y5 = true then (some (1)) else (if x < y then (some ((-1))) else (if y < x then (some (1)) else (some (0)))))
theorem Yh.mono : ∀ k y0 y1, LeO (Yh.f k y0 y1) (Yh.f (k + 1) y0 y1) := fun k _ _ => by unfold Yh.f; exact (LeO.bind (YA.mono k _) fun _ => LeO.bind (YA.mono k _) fun _ => LeO.ite (LeO.ite (LeO.refl _) (LeO.refl _)) (LeO.ite (LeO.refl _) (LeO.ite (LeO.refl _) (LeO.ite (LeO.refl _) (LeO.refl _)))))
theorem Yh.calls (k : Nat) {H : Hp} {L : Items} {x y r : Int} (he : Yh.f k x y = some r) : Ct Tryz.prog 136 ⟨[.int .i64 x, .int .i64 y]⟩ H L (fun v H' L' => L = L' ∧ H = H' ∧ v = .int .i64 r) := by
 refine Yr (O := Yh.out r) (fun _ _ h => h) ?_
 have hle : H.le H := .refl _
 unfold Yh.f at he
 refine QZ (args := [.int .i64 x, .int .i64 y]) fn_136 rfl nt_136 rfl <| wR rfl <| wA (.int .i64 0) rfl rfl <| wQ rfl <| wM (.int .i64 x) rfl rfl <| bK he fun y1 hy2 he => w_d rfl (Xi (Qj co153 (vs := [.int .i64 x]) rfl (YA.calls k hy2))) <| wA (.bool y1) rfl rfl <| Qc ?_
 refine wR rfl <| wM (.int .i64 y) rfl rfl <| bK he fun y5 hy6 he => w_d rfl (Xi (Qj co153 (vs := [.int .i64 y]) rfl (YA.calls k hy6))) <| wA (.bool y5) rfl rfl <| wE <| wR rfl <| wM (.bool y1) rfl rfl <| Qc ?_
 rcases its he with ⟨c9, he⟩ | ⟨c9, he⟩
 ·
  refine QB rfl c9 <| QX <| wR rfl <| wM (.bool y5) rfl rfl <| Qc ?_
  rcases its he with ⟨c10, he⟩ | ⟨c10, he⟩
  ·
   refine QB rfl c10 <| wR rfl <| wA (.int .i64 0) rfl rfl <| Qc ?_
   obtain rfl := sj he
   refine Qn fn_136 rs_136 (.tmp (v := .int .i64 0) rfl .nil) <| ⟨⟨[], rfl⟩, hle, rfl⟩
  ·
   refine QI rfl (Bool.eq_false_iff.2 c10) <| QF <| wR rfl <| wA (.int .i64 (-1)) rfl rfl <| Qc ?_
   obtain rfl := sj he
   refine Qn fn_136 rs_136 (.tmp (v := .int .i64 (-1)) rfl .nil) <| ⟨⟨[], rfl⟩, hle, rfl⟩
 ·
  refine QI rfl (Bool.eq_false_iff.2 c9) <| QF <| QX <| wR rfl <| wM (.bool y5) rfl rfl <| Qc ?_
  rcases its he with ⟨c11, he⟩ | ⟨c11, he⟩
  ·
   refine QB rfl c11 <| wR rfl <| wA (.int .i64 1) rfl rfl <| Qc ?_
   obtain rfl := sj he
   refine Qn fn_136 rs_136 (.tmp (v := .int .i64 1) rfl .nil) <| ⟨⟨[], rfl⟩, hle, rfl⟩
  ·
   refine QI rfl (Bool.eq_false_iff.2 c11) <| QF <| QX <| wR rfl <| wM (.int .i64 x) rfl rfl <| wM (.int .i64 y) rfl rfl <| w_d rfl (XO rfl rfl) <| Qc ?_
   rcases its he with ⟨c12, he⟩ | ⟨c12, he⟩
   ·
    refine QB rfl (dt c12) <| wR rfl <| wA (.int .i64 (-1)) rfl rfl <| Qc ?_
    obtain rfl := sj he
    refine Qn fn_136 rs_136 (.tmp (v := .int .i64 (-1)) rfl .nil) <| ⟨⟨[], rfl⟩, hle, rfl⟩
   ·
    refine QI rfl (df c12) <| QF <| QX <| wR rfl <| wM (.int .i64 x) rfl rfl <| wM (.int .i64 y) rfl rfl <| w_d rfl (Zi rfl rfl) <| Qc ?_
    rcases its he with ⟨c13, he⟩ | ⟨c13, he⟩
    ·
     refine QB rfl (dt c13) <| wR rfl <| wA (.int .i64 1) rfl rfl <| Qc ?_
     obtain rfl := sj he
     refine Qn fn_136 rs_136 (.tmp (v := .int .i64 1) rfl .nil) <| ⟨⟨[], rfl⟩, hle, rfl⟩
    ·
     refine QI rfl (df c13) <| QF <| wR rfl <| wA (.int .i64 0) rfl rfl <| Qc ?_
     obtain rfl := sj he
     refine Qn fn_136 rs_136 (.tmp (v := .int .i64 0) rfl .nil) <| ⟨⟨[], rfl⟩, hle, rfl⟩
noncomputable def X9.C : Code := (Tryz.f166.body).getD .skip
def X9.out (r : Bool) (H : Hp) (v : Value) : Prop := v = .bool r
noncomputable def X9.f (k : Nat) (x : Int) : Option Bool := some (!decide (x = x))
theorem X9.mono : ∀ k y0, LeO (X9.f k y0) (X9.f (k + 1) y0) := fun k _ => by unfold X9.f; exact (LeO.refl _)
theorem X9.calls (k : Nat) {H : Hp} {L : Items} {x : Int} {r : Bool} (he : X9.f k x = some r) : Ct Tryz.prog 166 ⟨[.int .u32 x]⟩ H L (fun v H' L' => L = L' ∧ H = H' ∧ v = .bool r) := by
 refine Yr (O := X9.out r) (fun _ _ h => h) ?_
 have hle : H.le H := .refl _
 unfold X9.f at he
 refine QZ (args := [.int .u32 x]) fn_166 rfl nt_166 rfl <| wR rfl <| wA (.bool false) rfl rfl <| wQ rfl <| wM (.int .u32 x) rfl rfl <| wM (.int .u32 x) rfl rfl <| w_d rfl (Jx rfl rfl) <| wA (.bool (!decide (x = x))) rfl rfl <| Qc ?_
 obtain rfl := sj he
 refine Qn fn_166 rs_166 (.tmp (v := .bool (!decide (x = x))) rfl .nil) <| ⟨⟨[], rfl⟩, hle, rfl⟩
noncomputable def Yb.C : Code := (Tryz.f154.body).getD .skip
def Yb.out (r : Int) (H : Hp) (v : Value) : Prop := v = .int .i64 r
noncomputable def Yb.f (k : Nat) (x y : Int) : Option Int := (X9.f k x).bind fun y1 => (X9.f k y).bind fun y5 => if y1 = true then (if y5 = true then (some (0)) else (some ((-1)))) else (if y5 = true then (some (1)) else (if x < y then (some ((-1))) else (if y < x then (some (1)) else (some (0)))))
theorem Yb.mono : ∀ k y0 y1, LeO (Yb.f k y0 y1) (Yb.f (k + 1) y0 y1) := fun k _ _ => by unfold Yb.f; exact (LeO.bind (X9.mono k _) fun _ => LeO.bind (X9.mono k _) fun _ => LeO.ite (LeO.ite (LeO.refl _) (LeO.refl _)) (LeO.ite (LeO.refl _) (LeO.ite (LeO.refl _) (LeO.ite (LeO.refl _) (LeO.refl _)))))
theorem Yb.calls (k : Nat) {H : Hp} {L : Items} {x y r : Int} (he : Yb.f k x y = some r) : Ct Tryz.prog 154 ⟨[.int .u32 x, .int .u32 y]⟩ H L (fun v H' L' => L = L' ∧ H = H' ∧ v = .int .i64 r) := by
 refine Yr (O := Yb.out r) (fun _ _ h => h) ?_
 have hle : H.le H := .refl _
 unfold Yb.f at he
 refine QZ (args := [.int .u32 x, .int .u32 y]) fn_154 rfl nt_154 rfl <| wR rfl <| wA (.int .i64 0) rfl rfl <| wQ rfl <| wM (.int .u32 x) rfl rfl <| bK he fun y1 hy2 he => w_d rfl (Xi (Qj co166 (vs := [.int .u32 x]) rfl (X9.calls k hy2))) <| wA (.bool y1) rfl rfl <| Qc ?_
 refine wR rfl <| wM (.int .u32 y) rfl rfl <| bK he fun y5 hy6 he => w_d rfl (Xi (Qj co166 (vs := [.int .u32 y]) rfl (X9.calls k hy6))) <| wA (.bool y5) rfl rfl <| wE <| wR rfl <| wM (.bool y1) rfl rfl <| Qc ?_
 rcases its he with ⟨c9, he⟩ | ⟨c9, he⟩
 ·
  refine QB rfl c9 <| QX <| wR rfl <| wM (.bool y5) rfl rfl <| Qc ?_
  rcases its he with ⟨c10, he⟩ | ⟨c10, he⟩
  ·
   refine QB rfl c10 <| wR rfl <| wA (.int .i64 0) rfl rfl <| Qc ?_
   obtain rfl := sj he
   refine Qn fn_154 rs_154 (.tmp (v := .int .i64 0) rfl .nil) <| ⟨⟨[], rfl⟩, hle, rfl⟩
  ·
   refine QI rfl (Bool.eq_false_iff.2 c10) <| QF <| wR rfl <| wA (.int .i64 (-1)) rfl rfl <| Qc ?_
   obtain rfl := sj he
   refine Qn fn_154 rs_154 (.tmp (v := .int .i64 (-1)) rfl .nil) <| ⟨⟨[], rfl⟩, hle, rfl⟩
 ·
  refine QI rfl (Bool.eq_false_iff.2 c9) <| QF <| QX <| wR rfl <| wM (.bool y5) rfl rfl <| Qc ?_
  rcases its he with ⟨c11, he⟩ | ⟨c11, he⟩
  ·
   refine QB rfl c11 <| wR rfl <| wA (.int .i64 1) rfl rfl <| Qc ?_
   obtain rfl := sj he
   refine Qn fn_154 rs_154 (.tmp (v := .int .i64 1) rfl .nil) <| ⟨⟨[], rfl⟩, hle, rfl⟩
  ·
   refine QI rfl (Bool.eq_false_iff.2 c11) <| QF <| QX <| wR rfl <| wM (.int .u32 x) rfl rfl <| wM (.int .u32 y) rfl rfl <| w_d rfl (XO rfl rfl) <| Qc ?_
   rcases its he with ⟨c12, he⟩ | ⟨c12, he⟩
   ·
    refine QB rfl (dt c12) <| wR rfl <| wA (.int .i64 (-1)) rfl rfl <| Qc ?_
    obtain rfl := sj he
    refine Qn fn_154 rs_154 (.tmp (v := .int .i64 (-1)) rfl .nil) <| ⟨⟨[], rfl⟩, hle, rfl⟩
   ·
    refine QI rfl (df c12) <| QF <| QX <| wR rfl <| wM (.int .u32 x) rfl rfl <| wM (.int .u32 y) rfl rfl <| w_d rfl (Zi rfl rfl) <| Qc ?_
    rcases its he with ⟨c13, he⟩ | ⟨c13, he⟩
    ·
     refine QB rfl (dt c13) <| wR rfl <| wA (.int .i64 1) rfl rfl <| Qc ?_
     obtain rfl := sj he
     refine Qn fn_154 rs_154 (.tmp (v := .int .i64 1) rfl .nil) <| ⟨⟨[], rfl⟩, hle, rfl⟩
    ·
     refine QI rfl (df c13) <| QF <| wR rfl <| wA (.int .i64 0) rfl rfl <| Qc ?_
     obtain rfl := sj he
     refine Qn fn_154 rs_154 (.tmp (v := .int .i64 0) rfl .nil) <| ⟨⟨[], rfl⟩, hle, rfl⟩
noncomputable def Xb.C : Code := (Tryz.f137.body).getD .skip
def Xb.out (r : Int) (H : Hp) (v : Value) : Prop := v = .int .i64 r
abbrev Xb.R (H0 : Hp) (L : Items) (r : Int) := fR H0 L (Xb.out r)
structure Xb.Hs where
 l0 : (List Int) → (List Int) → Int → Int → Option Int
noncomputable def Xb.b0 (k : Nat) (h : Xb.Hs) (a b : List Int) (t4 i : Int) : Option Int := if 0 ≤ i then (if (0 : Int) ≤ i ∧ i < (a.length : Int) then (if (0 : Int) ≤ i ∧ i < (b.length : Int) then ((Yb.f k (rd a i) (rd b i)).bind fun y11 => if y11 = 0 then (h.l0 a b t4 (w64 (i - 1))) else (some (y11))) else none) else none) else (some (0))
noncomputable def Xb.hs : Nat → Xb.Hs
 | 0 => ⟨fun _ _ _ _ => none⟩
 | k + 1 => ⟨fun x0 x1 x2 x3 => Xb.b0 k (Xb.hs k) x0 x1 x2 x3⟩
noncomputable def Xb.f (k : Nat) (a b : List Int) : Option Int := (fun h : Xb.Hs => (Yh.f k (a.length : Int) (b.length : Int)).bind fun y1 => if y1 = 0 then (h.l0 a b 0 (w64 ((a.length : Int) - 1))) else (some (y1))) (Xb.hs k)
structure Xb.LE (h h' : Xb.Hs) : Prop where
 l0 : ∀ y0 y1 y2 y3, LeO (h.l0 y0 y1 y2 y3) (h'.l0 y0 y1 y2 y3)
theorem Xb.b0_mono {k : Nat} {h h' : Xb.Hs} (hl : Xb.LE h h') : ∀ y0 y1 y2 y3, LeO (Xb.b0 k h y0 y1 y2 y3) (Xb.b0 (k + 1) h' y0 y1 y2 y3) := fun _ _ _ _ => (LeO.ite (LeO.ite (LeO.ite (LeO.bind (Yb.mono k _ _) fun _ => LeO.ite (hl.l0 _ _ _ _) (LeO.refl _)) (LeO.refl _)) (LeO.refl _)) (LeO.refl _))
theorem Xb.hs_mono : ∀ k, Xb.LE (Xb.hs k) (Xb.hs (k + 1))
 | 0 => ⟨fun _ _ _ _ => LeO.none _⟩
 | k + 1 => ⟨Xb.b0_mono (k := k) (Xb.hs_mono k)⟩
theorem Xb.mono : ∀ k y0 y1, LeO (Xb.f k y0 y1) (Xb.f (k + 1) y0 y1) := fun k _ _ => have hl := Xb.hs_mono k; by unfold Xb.f; exact (LeO.bind (Yh.mono k _ _) fun _ => LeO.ite (hl.l0 _ _ _ _) (LeO.refl _))
noncomputable def Xb.Kl0 : List Item := .code (lopB (blkB (seqR (seqL (seqR (seqR Xb.C)))))) :: .inLoop (lopB (blkB (seqR (seqL (seqR (seqR Xb.C)))))) :: .inBlock 0 :: .code (seqR (seqR (seqR Xb.C))) :: []
structure Xb.OK (h : Xb.Hs) : Prop where
 l0 : ∀ {H0 H : Hp} {L : Items} {r : Int} {jk_ : Nat → Value} {a : List Int} {b : List Int} {t4 : Int} {i : Int} {v_a : Value} {v_b : Value} (_ : H0.le H) (_he : h.l0 a b t4 i = some r) (_h_a : Src kU32 H L v_a a) (_h_b : Src kU32 H L v_b b), Wp Tryz.prog 137 35 Xb.Kl0 (upd (upd (upd (upd jk_ 0 (v_a)) 1 (v_b)) 4 (.int .i64 t4)) 6 (.int .i64 i)) H (L) (Xb.R H0 L r)
theorem Xb.b0_ok {k : Nat} {h : Xb.Hs} (hh : Xb.OK h) {H0 H : Hp} {L : Items} {r : Int} {jk_ : Nat → Value} {a b : List Int} {t4 i : Int} {v_a v_b : Value} (hle : H0.le H) (he : Xb.b0 k h a b t4 i = some r) (h_a : Src kU32 H L v_a a) (h_b : Src kU32 H L v_b b) : Wp Tryz.prog 137 35 Xb.Kl0 (upd (upd (upd (upd jk_ 0 (v_a)) 1 (v_b)) 4 (.int .i64 t4)) 6 (.int .i64 i)) H (L) (Xb.R H0 L r) := by
 unfold Xb.b0 at he
 unfold Xb.Kl0
 refine QX <| wR rfl <| wM (.int .i64 i) rfl rfl <| w_d rfl (ZU rfl rfl) <| Qc ?_
 rcases its he with ⟨c6, he⟩ | ⟨c6, he⟩
 ·
  refine QB rfl (dt c6) <| QF <| QX <| Q8 <| QX <| rK he fun c7 he => rK he fun c8 he => Xv (p := 8) (tl := [8, 9]) [[], [], [(0, some 23), (1, some 24)], [(2, some 25)], [], [], [(4, some 27), (5, some 28)], [(6, some 29)]] [some 23, some 24, some 25, some 26, some 27, some 28, some 29, some 30] (fctF (.is (v_a) :: .is (.int .i64 i) :: .is (.pointer (some (pel v_a i 1))) :: .is (.int .u32 (rd a i)) :: .is (v_b) :: .is (.int .i64 i) :: .is (.pointer (some (pel v_b i 1))) :: .is (.int .u32 (rd b i)) :: [])) (fun m_ => L) (fun _ => none) mixed (by kernel_rfl) (by kernel_rfl) rfl (Xn (by kernel_rfl)) ⟨(fun H' m_ hH hm_ hu_ => dn <| s_d (m_ 0) rfl (QR (v := v_a) rfl) (by exact rfl) rfl), (fun H' m_ hH hm_ hu_ => dn <| s_d (m_ 1) rfl (QR (v := .int .i64 i) rfl) (by exact rfl) rfl), (by rintro H' m_ hH hm_ hu_ _ rfl _ rfl; exact dn <| s_d (m_ 2) rfl (XT (sz := 1) Tryz.underlying22 sz167 rfl (h_a.mono hH) rfl c7) (by exact rfl) rfl), (by rintro H' m_ hH hm_ hu_ _ rfl; exact dn <| s_d (m_ 3) rfl (XX ty167 rfl (h_a.mono hH) c7) (by exact rfl) rfl), (fun H' m_ hH hm_ hu_ => dn <| s_d (m_ 4) rfl (QR (v := v_b) rfl) (by exact rfl) rfl), (fun H' m_ hH hm_ hu_ => dn <| s_d (m_ 5) rfl (QR (v := .int .i64 i) rfl) (by exact rfl) rfl), (by rintro H' m_ hH hm_ hu_ _ rfl _ rfl; exact dn <| s_d (m_ 6) rfl (XT (sz := 1) Tryz.underlying22 sz167 rfl (h_b.mono hH) rfl c8) (by exact rfl) rfl), (by rintro H' m_ hH hm_ hu_ _ rfl; exact dn <| s_d (m_ 7) rfl (XX ty167 rfl (h_b.mono hH) c8) (by exact rfl) rfl), trivial⟩ ?_
  intro H9 e10
  rintro _ _ rfl _ _ rfl _ _ rfl _ _ rfl _ _ rfl _ _ rfl _ _ rfl _ _ rfl
  refine bK he fun y11 hy12 he => w_d rfl (Xi (Qj co154 (vs := [.int .u32 (rd a i), .int .u32 (rd b i)]) rfl (Yb.calls k hy12))) <| wA (.int .i64 y11) rfl rfl <| wQ rfl <| wM (.int .i64 y11) rfl rfl <| w_d rfl (Jx rfl rfl) <| Qc ?_
  rcases its he with ⟨c15, he⟩ | ⟨c15, he⟩
  ·
   refine QI rfl (nd_t c15) <| QF <| Xp <| QH rfl <| wM (.int .i64 i) rfl rfl <| w_d rfl (YT (c := w64 (i - 1)) rfl rfl rfl) <| wA (.int .i64 (w64 (i - 1))) rfl rfl <| Qc <| Xy <| w_sl 0 (v_a) rfl <| w_sl 1 (v_b) rfl <| w_sl 4 (.int .i64 t4) rfl ?_
   refine w_sl 6 (.int .i64 (w64 (i - 1))) rfl <| hh.l0 (hle.trans e10) he (h_a.mono e10) (h_b.mono e10)
  ·
   refine QB rfl (nd_f c15) <| wR rfl <| wM (.int .i64 y11) rfl rfl <| wA (.int .i64 y11) rfl rfl <| Qc ?_
   obtain rfl := sj he
   refine Qn fn_137 rs_137 (.tmp (v := .int .i64 y11) rfl .nil) <| ⟨⟨[], rfl⟩, hle.trans e10, rfl⟩
 ·
  refine QI rfl (df c6) <| Ya rfl <| wR rfl <| wA (.int .i64 0) rfl rfl <| Qc ?_
  obtain rfl := sj he
  refine Qn fn_137 rs_137 (.tmp (v := .int .i64 0) rfl .nil) <| ⟨⟨[], rfl⟩, hle, rfl⟩
theorem Xb.ok : ∀ k, Xb.OK (Xb.hs k)
 | 0 => ⟨(by intros; exact nomatch (show none = some _ from by assumption))⟩
 | k + 1 => ⟨Xb.b0_ok (k := k) (Xb.ok k)⟩
theorem Xb.calls (k : Nat) {H : Hp} {L : Items} {a b : List Int} {v0_a v1_b : Value} {r : Int} (he : Xb.f k a b = some r) (h0_a : Src kU32 H L v0_a a) (h1_b : Src kU32 H L v1_b b) : Ct Tryz.prog 137 ⟨[v0_a, v1_b]⟩ H L (fun v H' L' => L = L' ∧ H = H' ∧ v = .int .i64 r) := by
 refine Yr (O := Xb.out r) (fun _ _ h => h) ?_
 have hle : H.le H := .refl _
 have hh := Xb.ok k
 unfold Xb.f at he
 refine QZ (args := [v0_a, v1_b]) fn_137 rfl nt_137 rfl <| wR rfl <| wA (.int .i64 0) rfl rfl <| wE <| wR rfl <| wM v0_a rfl rfl <| w_d rfl (XL Tryz.underlying22 rfl h0_a) <| wM v1_b rfl rfl <| w_d rfl (XL Tryz.underlying22 rfl h1_b) ?_
 refine bK he fun y1 hy2 he => w_d rfl (Xi (Qj co136 (vs := [.int .i64 (a.length : Int), .int .i64 (b.length : Int)]) rfl (Yh.calls k hy2))) <| wA (.int .i64 y1) rfl rfl <| wQ rfl <| wM (.int .i64 y1) rfl rfl <| w_d rfl (Jx rfl rfl) <| Qc ?_
 rcases its he with ⟨c5, he⟩ | ⟨c5, he⟩
 ·
  refine QI rfl (nd_t c5) <| QF <| QX <| wR rfl <| wM v0_a rfl rfl <| w_d rfl (XL Tryz.underlying22 rfl h0_a) <| w_d rfl (YT (c := w64 ((a.length : Int) - 1)) rfl rfl rfl) <| wA (.int .i64 (w64 ((a.length : Int) - 1))) rfl rfl <| Qc <| Q8 <| Ye ?_
  refine w_sl 0 (v0_a) rfl <| w_sl 1 (v1_b) rfl <| w_sl 4 (.int .i64 0) rfl <| w_sl 6 (.int .i64 (w64 ((a.length : Int) - 1))) rfl <| hh.l0 hle he h0_a h1_b
 ·
  refine QB rfl (nd_f c5) <| wR rfl <| wM (.int .i64 y1) rfl rfl <| wA (.int .i64 y1) rfl rfl <| Qc ?_
  obtain rfl := sj he
  refine Qn fn_137 rs_137 (.tmp (v := .int .i64 y1) rfl .nil) <| ⟨⟨[], rfl⟩, hle, rfl⟩
noncomputable def Q9.C : Code := (Tryz.f130.body).getD .skip
def Q9.out (r : (List Int) × Int) (H : Hp) (v : Value) : Prop := ∃ v0, v = .tuple ⟨[v0, .int .u32 r.2]⟩ ∧ Ro kU32 H v0 r.1
abbrev Q9.R (H0 : Hp) (L : Items) (r : (List Int) × Int) := fR H0 L (Q9.out r)
structure Q9.Hs where
 l0 : (List Int) → Int → (List Int) → Int → Int → Option ((List Int) × Int)
noncomputable def Q9.b0 (k : Nat) (h : Q9.Hs) (a : List Int) (b : Int) (out : List Int) (rest i : Int) : Option ((List Int) × Int) := if 0 ≤ i then (if (0 : Int) ≤ i ∧ i < (a.length : Int) then (if ((b) % 18446744073709551616) ≠ 0 then (if (0 : Int) ≤ i ∧ i < (out.length : Int) then (if ((b) % 18446744073709551616) ≠ 0 then (h.l0 a b (out.set (i : Int).toNat (((Int.tdiv (ior .u64 ((rest * 4294967296) % 18446744073709551616) ((rd a i) % 18446744073709551616)) ((b) % 18446744073709551616)) % 18446744073709551616) % 4294967296)) (Int.tmod (ior .u64 ((rest * 4294967296) % 18446744073709551616) ((rd a i) % 18446744073709551616)) ((b) % 18446744073709551616)) (w64 (i - 1))) else none) else none) else none) else none) else ((Q3.f k out).bind fun y15 => some (y15, (rest) % 4294967296))
noncomputable def Q9.hs : Nat → Q9.Hs
 | 0 => ⟨fun _ _ _ _ _ => none⟩
 | k + 1 => ⟨fun x0 x1 x2 x3 x4 => Q9.b0 k (Q9.hs k) x0 x1 x2 x3 x4⟩
noncomputable def Q9.f (k : Nat) (a : List Int) (b : Int) : Option ((List Int) × Int) := (fun h : Q9.Hs => if 0 ≤ (a.length : Int) ∧ (a.length : Int) ≤ 70368744177664 then (h.l0 a b (List.replicate ((a.length : Int) : Int).toNat (0 : Int)) 0 (w64 ((a.length : Int) - 1))) else none) (Q9.hs k)
structure Q9.LE (h h' : Q9.Hs) : Prop where
 l0 : ∀ y0 y1 y2 y3 y4, LeO (h.l0 y0 y1 y2 y3 y4) (h'.l0 y0 y1 y2 y3 y4)
theorem Q9.b0_mono {k : Nat} {h h' : Q9.Hs} (hl : Q9.LE h h') : ∀ y0 y1 y2 y3 y4, LeO (Q9.b0 k h y0 y1 y2 y3 y4) (Q9.b0 (k + 1) h' y0 y1 y2 y3 y4) := fun _ _ _ _ _ => (LeO.ite (LeO.ite (LeO.ite (LeO.ite (LeO.ite (hl.l0 _ _ _ _ _) (LeO.refl _)) (LeO.refl _)) (LeO.refl _)) (LeO.refl _)) (LeO.bind (Q3.mono k _) fun _ => LeO.refl _))
theorem Q9.hs_mono : ∀ k, Q9.LE (Q9.hs k) (Q9.hs (k + 1))
 | 0 => ⟨fun _ _ _ _ _ => LeO.none _⟩
 | k + 1 => ⟨Q9.b0_mono (k := k) (Q9.hs_mono k)⟩
theorem Q9.mono : ∀ k y0 y1, LeO (Q9.f k y0 y1) (Q9.f (k + 1) y0 y1) := fun k _ _ => have hl := Q9.hs_mono k; by unfold Q9.f; exact (LeO.ite (hl.l0 _ _ _ _ _) (LeO.refl _))
noncomputable def Q9.Kl0 : List Item := .code (lopB (blkB (seqR (seqL (seqR (seqR (seqR Q9.C))))))) :: .inLoop (lopB (blkB (seqR (seqL (seqR (seqR (seqR Q9.C))))))) :: .inBlock 0 :: .code (seqR (seqR (seqR (seqR Q9.C)))) :: []
structure Q9.OK (h : Q9.Hs) : Prop where
 l0 : ∀ {H0 H : Hp} {L : Items} {r : (List Int) × Int} {jk_ : Nat → Value} {a : List Int} {b : Int} {out : List Int} {rest : Int} {i : Int} {v_a : Value} {v_out : Value} {i_out : Item'} (_ : H0.le H) (_he : h.l0 a b out rest i = some r) (_h_a : Src kU32 H L v_a a) (_h_out : Sl kU32 H 167 i_out v_out out), Wp Tryz.prog 130 44 Q9.Kl0 (upd (upd (upd (upd (upd (upd (upd jk_ 0 (v_a)) 1 (.int .u32 b)) 4 (.slice none 0 0)) 5 (.int .u32 0)) 6 (v_out)) 7 (.int .u64 rest)) 8 (.int .i64 i)) H (i_out :: L) (Q9.R H0 L r)
theorem Q9.b0_ok {k : Nat} {h : Q9.Hs} (hh : Q9.OK h) {H0 H : Hp} {L : Items} {r : (List Int) × Int} {jk_ : Nat → Value} {a : List Int} {b : Int} {out : List Int} {rest i : Int} {v_a v_out : Value} {i_out : Item'} (hle : H0.le H) (he : Q9.b0 k h a b out rest i = some r) (h_a : Src kU32 H L v_a a) (h_out : Sl kU32 H 167 i_out v_out out) : Wp Tryz.prog 130 44 Q9.Kl0 (upd (upd (upd (upd (upd (upd (upd jk_ 0 (v_a)) 1 (.int .u32 b)) 4 (.slice none 0 0)) 5 (.int .u32 0)) 6 (v_out)) 7 (.int .u64 rest)) 8 (.int .i64 i)) H (i_out :: L) (Q9.R H0 L r) := by
 unfold Q9.b0 at he
 unfold Q9.Kl0
 refine QX <| wR rfl <| wM (.int .i64 i) rfl rfl <| w_d rfl (ZU rfl rfl) <| Qc ?_
 rcases its he with ⟨c5, he⟩ | ⟨c5, he⟩
 ·
  refine QB rfl (dt c5) <| QF <| QX <| Q8 <| wR rfl <| wM (.int .u64 rest) rfl rfl <| w_d rfl (G9 (c := (rest * 4294967296) % 18446744073709551616) rfl rfl (by decide) rfl) <| wM v_a rfl rfl <| wM (.int .i64 i) rfl rfl <| rK he fun c6 he => w_d rfl (XT (sz := 1) Tryz.underlying22 sz167 rfl h_a.th rfl c6) ?_
  refine w_d rfl (XX ty167 rfl h_a.th c6) <| w_d rfl (Yd (c := (rd a i) % 18446744073709551616) Tryz.underlying167 Tryz.underlying113 rfl rfl) <| w_d rfl (Md rfl rfl) <| wA (.int .u64 (ior .u64 ((rest * 4294967296) % 18446744073709551616) ((rd a i) % 18446744073709551616))) rfl rfl <| wQ rfl <| wM v_out rfl rfl <| wM (.int .i64 i) rfl rfl <| wM (.int .u64 (ior .u64 ((rest * 4294967296) % 18446744073709551616) ((rd a i) % 18446744073709551616))) rfl rfl <| wM (.int .u32 b) rfl rfl <| w_d rfl (Yd (c := (b) % 18446744073709551616) Tryz.underlying167 Tryz.underlying113 rfl rfl) ?_
  refine rK he fun c7 he => w_d rfl (JK (c := (Int.tdiv (ior .u64 ((rest * 4294967296) % 18446744073709551616) ((rd a i) % 18446744073709551616)) ((b) % 18446744073709551616)) % 18446744073709551616) rfl rfl c7 rfl) <| w_d rfl (Yd (c := ((Int.tdiv (ior .u64 ((rest * 4294967296) % 18446744073709551616) ((rd a i) % 18446744073709551616)) ((b) % 18446744073709551616)) % 18446744073709551616) % 4294967296) Tryz.underlying113 Tryz.underlying167 rfl rfl) <| rK he fun c8 he => w_d rfl (Y0 (sz := 1) Tryz.underlying22 sz167 rfl h_out.shp rfl c8) <| w_a0 rfl (Zn (kd := kU32) (v := .int .u32 (((Int.tdiv (ior .u64 ((rest * 4294967296) % 18446744073709551616) ((rd a i) % 18446744073709551616)) ((b) % 18446744073709551616)) % 18446744073709551616) % 4294967296)) (F := fun z_ => z_ :: L) sz167 rfl rfl rfl rfl h_out c8 (fun _ => .here)) ?_
  rintro _ _ _ ⟨i9, rfl, rfl, rfl, h10⟩
  refine Qc <| QH rfl <| wM (.int .u64 (ior .u64 ((rest * 4294967296) % 18446744073709551616) ((rd a i) % 18446744073709551616))) rfl rfl <| wM (.int .u32 b) rfl rfl <| w_d rfl (Yd (c := (b) % 18446744073709551616) Tryz.underlying167 Tryz.underlying113 rfl rfl) <| rK he fun c11 he => w_d rfl (Js rfl rfl c11) <| wA (.int .u64 (Int.tmod (ior .u64 ((rest * 4294967296) % 18446744073709551616) ((rd a i) % 18446744073709551616)) ((b) % 18446744073709551616))) rfl rfl <| Qc <| Xp <| QH rfl <| wM (.int .i64 i) rfl rfl ?_
  refine w_d rfl (YT (c := w64 (i - 1)) rfl rfl rfl) <| wA (.int .i64 (w64 (i - 1))) rfl rfl <| Qc <| Xy <| w_sl 0 (v_a) rfl <| w_sl 1 (.int .u32 b) rfl <| w_sl 4 (.slice none 0 0) rfl <| w_sl 5 (.int .u32 0) rfl <| w_sl 6 (v_out) rfl <| w_sl 7 (.int .u64 (Int.tmod (ior .u64 ((rest * 4294967296) % 18446744073709551616) ((rd a i) % 18446744073709551616)) ((b) % 18446744073709551616))) rfl <| w_sl 8 (.int .i64 (w64 (i - 1))) rfl <| hh.l0 hle he h_a h10
 ·
  refine QI rfl (df c5) <| Ya rfl <| wR rfl <| wM v_out rfl rfl <| Y8 h_out .here ?_
  intro H12 e13 h14
  refine bK he fun y15 hy16 he => w_a rfl (Qj co113 (vs := [v_out]) rfl (Q3.calls k hy16 h14)) ?_
  rintro v19 H17 _ ⟨rfl, e18, h20⟩
  refine wM (.int .u64 rest) rfl rfl <| w_d rfl (Yd (c := (rest) % 4294967296) Tryz.underlying113 Tryz.underlying167 rfl rfl) <| wA v19 rfl rfl <| wA (.int .u32 ((rest) % 4294967296)) rfl rfl <| Qc ?_
  obtain rfl := sj he
  refine Qn fn_130 rs_130 (.tmp (v := v19) rfl (.tmp (v := .int .u32 ((rest) % 4294967296)) rfl .nil)) <| ⟨⟨[_], rfl⟩, hle.trans (e13.trans e18), ⟨v19, rfl, h20⟩⟩
theorem Q9.ok : ∀ k, Q9.OK (Q9.hs k)
 | 0 => ⟨(by intros; exact nomatch (show none = some _ from by assumption))⟩
 | k + 1 => ⟨Q9.b0_ok (k := k) (Q9.ok k)⟩
theorem Q9.calls (k : Nat) {H : Hp} {L : Items} {a : List Int} {b : Int} {v0_a : Value} {r : (List Int) × Int} (he : Q9.f k a b = some r) (h0_a : Src kU32 H L v0_a a) : Ct Tryz.prog 130 ⟨[v0_a, .int .u32 b]⟩ H L (cR H L (Q9.out r)) := by
 refine XS (O := Q9.out r) ?_
 have hle : H.le H := .refl _
 have hh := Q9.ok k
 unfold Q9.f at he
 refine QZ (args := [v0_a, .int .u32 b]) fn_130 rfl nt_130 rfl <| wR rfl <| wA (.slice none 0 0) rfl rfl <| wA (.int .u32 0) rfl rfl <| wQ rfl <| wM v0_a rfl rfl <| w_d rfl (XL Tryz.underlying22 rfl h0_a) <| rK he fun c1 he => w_a rfl (o_make' (kd := kU32) (z0 := 0) Tryz.underlying22 ti167 (zp167 _) rfl rfl (by omega) (by omega) (by omega)) ?_
 rintro v2 _ _ ⟨i3, rfl, rfl, h4⟩
 refine wA v2 rfl rfl <| wQ rfl <| wA (.int .u64 0) rfl rfl <| wE <| wR rfl <| wM v0_a rfl rfl <| w_d rfl (XL Tryz.underlying22 rfl h0_a.th) <| w_d rfl (YT (c := w64 ((a.length : Int) - 1)) rfl rfl rfl) ?_
 refine wA (.int .i64 (w64 ((a.length : Int) - 1))) rfl rfl <| Qc <| Q8 <| Ye <| w_sl 0 (v0_a) rfl <| w_sl 1 (.int .u32 b) rfl <| w_sl 4 (.slice none 0 0) rfl <| w_sl 5 (.int .u32 0) rfl <| w_sl 6 (v2) rfl <| w_sl 7 (.int .u64 0) rfl <| w_sl 8 (.int .i64 (w64 ((a.length : Int) - 1))) rfl <| hh.l0 hle he h0_a h4
noncomputable def Xj.C : Code := (Tryz.f167.body).getD .skip
def Xj.out (r : Int) (H : Hp) (v : Value) : Prop := v = .int .i64 r
abbrev Xj.R (H0 : Hp) (L : Items) (r : Int) := fR H0 L (Xj.out r)
noncomputable def Xj.j2 (k : Nat) (x n : Int) : Option Int := if (0 : Int) ≤ (x) % 256 ∧ (x) % 256 < (str_4.size : Int) then (some (w64 (n + (w64 (bt str_4 ((x) % 256)))))) else none
noncomputable def Xj.j1 (k : Nat) (x n : Int) : Option Int := if 256 ≤ x then (Xj.j2 k (x / 256) (w64 (n + 8))) else (Xj.j2 k x n)
noncomputable def Xj.f (k : Nat) (x : Int) : Option Int := if 65536 ≤ x then (Xj.j1 k (x / 65536) 16) else (Xj.j1 k x 0)
theorem Xj.j2_mono {k : Nat} : ∀ y0 y1, LeO (Xj.j2 k y0 y1) (Xj.j2 (k + 1) y0 y1) := fun _ _ => (LeO.ite (LeO.refl _) (LeO.refl _))
theorem Xj.j1_mono {k : Nat} : ∀ y0 y1, LeO (Xj.j1 k y0 y1) (Xj.j1 (k + 1) y0 y1) := fun _ _ => (LeO.ite (Xj.j2_mono (k := k)  _ _) (Xj.j2_mono (k := k)  _ _))
theorem Xj.mono : ∀ k y0, LeO (Xj.f k y0) (Xj.f (k + 1) y0) := fun k _ => by unfold Xj.f; exact (LeO.ite (Xj.j1_mono (k := k)  _ _) (Xj.j1_mono (k := k)  _ _))
noncomputable def Xj.Kj1 : List Item := .code (seqR (seqR Xj.C)) :: []
noncomputable def Xj.Kj2 : List Item := .code (seqR (seqR (seqR Xj.C))) :: []
theorem Xj.j2_ok {k : Nat} {H0 H : Hp} {L : Items} {r : Int} {jk_ : Nat → Value} {x n : Int} (hle : H0.le H) (he : Xj.j2 k x n = some r) : Wp Tryz.prog 167 19 Xj.Kj2 (upd (upd jk_ 0 (.int .u32 x)) 2 (.int .i64 n)) H (L) (Xj.R H0 L r) := by
 unfold Xj.j2 at he
 unfold Xj.Kj2
 refine wR rfl <| wM (.int .i64 n) rfl rfl <| wM (.int .u32 x) rfl rfl <| w_d rfl (Yd (c := (x) % 256) Tryz.underlying167 Tryz.underlying5 rfl rfl) <| rK he fun c3 he => w_d rfl (d_bt Tryz.underlying9 rfl rfl c3) <| w_d rfl (Yd (c := w64 (bt str_4 ((x) % 256))) Tryz.underlying5 Tryz.underlying3 rfl rfl) <| w_d rfl (XG (c := w64 (n + (w64 (bt str_4 ((x) % 256))))) rfl rfl rfl) <| wA (.int .i64 (w64 (n + (w64 (bt str_4 ((x) % 256)))))) rfl rfl <| Qc ?_
 obtain rfl := sj he
 refine Qn fn_167 rs_167 (.tmp (v := .int .i64 (w64 (n + (w64 (bt str_4 ((x) % 256)))))) rfl .nil) <| ⟨⟨[], rfl⟩, hle, rfl⟩
theorem Xj.j1_ok {k : Nat} {H0 H : Hp} {L : Items} {r : Int} {jk_ : Nat → Value} {x n : Int} (hle : H0.le H) (he : Xj.j1 k x n = some r) : Wp Tryz.prog 167 19 Xj.Kj1 (upd (upd jk_ 0 (.int .u32 x)) 2 (.int .i64 n)) H (L) (Xj.R H0 L r) := by
 unfold Xj.j1 at he
 unfold Xj.Kj1
 refine QX <| wR rfl <| wM (.int .u32 x) rfl rfl <| w_d rfl (ZU rfl rfl) <| Qc ?_
 rcases its he with ⟨c2, he⟩ | ⟨c2, he⟩
 ·
  refine QB rfl (dt c2) <| wR rfl <| wM (.int .u32 x) rfl rfl <| w_d rfl (Ju (c := x / 256) rfl rfl (by decide) rfl) <| wA (.int .u32 (x / 256)) rfl rfl <| Qc <| QH rfl <| wM (.int .i64 n) rfl rfl <| w_d rfl (XG (c := w64 (n + 8)) rfl rfl rfl) <| wA (.int .i64 (w64 (n + 8))) rfl rfl <| Qc ?_
  refine w_sl 0 (.int .u32 (x / 256)) rfl <| w_sl 2 (.int .i64 (w64 (n + 8))) rfl <| Xj.j2_ok (k := k) hle he
 ·
  refine QI rfl (df c2) <| QF <| w_sl 0 (.int .u32 x) rfl <| w_sl 2 (.int .i64 n) rfl <| Xj.j2_ok (k := k) hle he
theorem Xj.calls (k : Nat) {H : Hp} {L : Items} {x r : Int} (he : Xj.f k x = some r) : Ct Tryz.prog 167 ⟨[.int .u32 x]⟩ H L (fun v H' L' => L = L' ∧ H = H' ∧ v = .int .i64 r) := by
 refine Yr (O := Xj.out r) (fun _ _ h => h) ?_
 have hle : H.le H := .refl _
 unfold Xj.f at he
 refine QZ (args := [.int .u32 x]) fn_167 rfl nt_167 rfl <| wR rfl <| wA (.int .i64 0) rfl rfl <| wE <| wR rfl <| wM (.int .u32 x) rfl rfl <| w_d rfl (ZU rfl rfl) <| Qc ?_
 rcases its he with ⟨c1, he⟩ | ⟨c1, he⟩
 ·
  refine QB rfl (dt c1) <| wR rfl <| wM (.int .u32 x) rfl rfl <| w_d rfl (Ju (c := x / 65536) rfl rfl (by decide) rfl) <| wA (.int .u32 (x / 65536)) rfl rfl <| Qc <| QH rfl <| wA (.int .i64 16) rfl rfl <| Qc <| w_sl 0 (.int .u32 (x / 65536)) rfl <| w_sl 2 (.int .i64 16) rfl <| Xj.j1_ok (k := k) hle he
 ·
  refine QI rfl (df c1) <| QF <| w_sl 0 (.int .u32 x) rfl <| w_sl 2 (.int .i64 0) rfl <| Xj.j1_ok (k := k) hle he
noncomputable def XZ.C : Code := (Tryz.f155.body).getD .skip
def XZ.out (r : Int) (H : Hp) (v : Value) : Prop := v = .int .i64 r
noncomputable def XZ.f (k : Nat) (x : Int) : Option Int := (Xj.f k x).bind fun y1 => some (w64 (32 - y1))
theorem XZ.mono : ∀ k y0, LeO (XZ.f k y0) (XZ.f (k + 1) y0) := fun k _ => by unfold XZ.f; exact (LeO.bind (Xj.mono k _) fun _ => LeO.refl _)
theorem XZ.calls (k : Nat) {H : Hp} {L : Items} {x r : Int} (he : XZ.f k x = some r) : Ct Tryz.prog 155 ⟨[.int .u32 x]⟩ H L (fun v H' L' => L = L' ∧ H = H' ∧ v = .int .i64 r) := by
 refine Yr (O := XZ.out r) (fun _ _ h => h) ?_
 have hle : H.le H := .refl _
 unfold XZ.f at he
 refine QZ (args := [.int .u32 x]) fn_155 rfl nt_155 rfl <| wR rfl <| wA (.int .i64 0) rfl rfl <| wQ rfl <| wM (.int .u32 x) rfl rfl <| bK he fun y1 hy2 he => w_d rfl (Xi (Qj co167 (vs := [.int .u32 x]) rfl (Xj.calls k hy2))) <| w_d rfl (YT (c := w64 (32 - y1)) rfl rfl rfl) <| wA (.int .i64 (w64 (32 - y1))) rfl rfl ?_
 refine Qc ?_
 obtain rfl := sj he
 refine Qn fn_155 rs_155 (.tmp (v := .int .i64 (w64 (32 - y1))) rfl .nil) <| ⟨⟨[], rfl⟩, hle, rfl⟩
end Go.Proofs.YtkccpkccdbfomaaGreatDoor.GSS

/- printed by gen.py -/
import Derived.Test.YtkccpkccdbfomaaGreatDoorGBPx4
namespace Go.Proofs.YtkccpkccdbfomaaGreatDoor.GBP
open Go Go.RowKit Go.Proofs.YtkccpkccdbfomaaGreatDoorK Go.Proofs.YtkccpkccdbfomaaGreatDoor
set_option maxRecDepth 100000
set_option maxHeartbeats 2000000
set_option linter.unusedVariables false
set_option linter.unusedSimpArgs false
noncomputable def Qx.C : Code := (Tryz.f65.body).getD .skip
def Qx.out (r : Qg × Qg) (H : Hp) (v : Value) : Prop := ∃ v0 v1, v = .tuple ⟨[(Qa r.1 v0), (Qa r.2 v1)]⟩ ∧ Ro kI64 H v0 r.1.f_D ∧ Ro kI64 H v1 r.2.f_D
abbrev Qx.R (H0 : Hp) (L : Items) (r : Qg × Qg) := fR H0 L (Qx.out r)
structure Qx.Hs where
 l0 : Bool → (List Int) → Bool → (List Int) → (List Int) → (List Int) → Int → Option (Qg × Qg)
 l1 : Bool → (List Int) → Bool → (List Int) → (List Int) → (List Int) → Int → Option (Qg × Qg)
noncomputable def Qx.b0 (k : Nat) (h : Qx.Hs) (a_0 : Bool) (a_1 : List Int) (b_0 : Bool) (b_1 rest q : List Int) (i : Int) : Option (Qg × Qg) := if 0 ≤ i then (if (0 : Int) ≤ i ∧ i < (a_1.length : Int) then (if [rd a_1 i].length + rest.length ≤ 17592186044288 then ((QJ.f k ([rd a_1 i] ++ rest)).bind fun y21 => h.l1 a_0 a_1 b_0 b_1 y21 q i) else none) else none) else ((QJ.f k q).bind fun y30 => (Xu.f k (!(a_0 == b_0)) y30).bind fun y36 => (Xu.f k false rest).bind fun y45 => if (a_0 && (decide (0 < (rest.length : Int)))) = true then ((Qj.f k b_1 rest).bind fun y56 => (Xu.f k false y56).bind fun y62 => if b_0 = true then ((Qu.f k 1).bind fun y69 => (XT.f k y36 y69).bind fun y77 => some (y77, y62)) else ((Qu.f k 1).bind fun y85 => (YA.f k y36 y85).bind fun y93 => some (y93, y62))) else (some (y36, y45)))
noncomputable def Qx.b1 (k : Nat) (h : Qx.Hs) (a_0 : Bool) (a_1 : List Int) (b_0 : Bool) (b_1 rest q : List Int) (i : Int) : Option (Qg × Qg) := (QS.f k rest b_1).bind fun y103 => if (!y103) = true then ((Qj.f k rest b_1).bind fun y108 => if (0 : Int) ≤ i ∧ i < (q.length : Int) then (if (0 : Int) ≤ i ∧ i < (q.length : Int) then (h.l1 a_0 a_1 b_0 b_1 y108 (q.set (i : Int).toNat (w64 ((rd q i) + 1))) i) else none) else none) else (h.l0 a_0 a_1 b_0 b_1 rest q (w64 (i - 1)))
noncomputable def Qx.hs : Nat → Qx.Hs
 | 0 => ⟨fun _ _ _ _ _ _ _ => none, fun _ _ _ _ _ _ _ => none⟩
 | k + 1 => ⟨fun x0 x1 x2 x3 x4 x5 x6 => Qx.b0 k (Qx.hs k) x0 x1 x2 x3 x4 x5 x6, fun x0 x1 x2 x3 x4 x5 x6 => Qx.b1 k (Qx.hs k) x0 x1 x2 x3 x4 x5 x6⟩
noncomputable def Qx.f (k : Nat) (a b : Qg) : Option (Qg × Qg) := (fun h : Qx.Hs => if 0 ≤ (a.f_D.length : Int) ∧ (a.f_D.length : Int) ≤ 35184372088832 then (h.l0 a.f_Neg a.f_D b.f_Neg b.f_D [] (List.replicate ((a.f_D.length : Int) : Int).toNat (0 : Int)) (w64 ((a.f_D.length : Int) - 1))) else none) (Qx.hs k)
noncomputable def Qx.Kl0 : List Item := .code (lopB (blkB (seqR (seqL (seqR (seqR (seqR Qx.C))))))) :: .inLoop (lopB (blkB (seqR (seqL (seqR (seqR (seqR Qx.C))))))) :: .inBlock 0 :: .code (seqR (seqR (seqR (seqR Qx.C)))) :: []
noncomputable def Qx.Kl1 : List Item := .code (lopB (blkB (seqR (blkB (seqL (seqR (lopB (blkB (seqR (seqL (seqR (seqR (seqR Qx.C))))))))))))) :: .inLoop (lopB (blkB (seqR (blkB (seqL (seqR (lopB (blkB (seqR (seqL (seqR (seqR (seqR Qx.C))))))))))))) :: .inBlock 2 :: .inBlock 1 :: .code (seqR (seqR (lopB (blkB (seqR (seqL (seqR (seqR (seqR Qx.C))))))))) :: .inLoop (lopB (blkB (seqR (seqL (seqR (seqR (seqR Qx.C))))))) :: .inBlock 0 :: .code (seqR (seqR (seqR (seqR Qx.C)))) :: []
structure Qx.OK (h : Qx.Hs) : Prop where
 l0 : ∀ {H0 H : Hp} {L : Items} {r : Qg × Qg} {jk_ : Nat → Value} {a_0 : Bool} {a_1 : List Int} {b_0 : Bool} {b_1 : List Int} {rest : List Int} {q : List Int} {i : Int} {v_a_1 : Value} {v_b_1 : Value} {v_rest : Value} {v_q : Value} {i_q : Item'} {b_a : Nat} {b_b : Nat} {b_t4 : Nat} {b_t5 : Nat} (_ : H0.le H) (_he : h.l0 a_0 a_1 b_0 b_1 rest q i = some r) (_h_a_1 : Ro kI64 H v_a_1 a_1) (_h_b_1 : Ro kI64 H v_b_1 b_1) (_h_rest : Ro kI64 H v_rest rest) (_h_q : Sl kI64 H 3 i_q v_q q), Wp Tryz.prog 65 79 Qx.Kl0 (upd (upd (upd (upd (upd (upd (upd jk_ 2 (pt b_a)) 3 (pt b_b)) 4 (pt b_t4)) 5 (pt b_t5)) 6 (v_rest)) 7 (v_q)) 8 (.int .i64 i)) H (i_q :: bx b_t5 [.bool false, .slice none 0 0] 37 :: bx b_t4 [.bool false, .slice none 0 0] 37 :: bx b_b [.bool b_0, v_b_1] 37 :: bx b_a [.bool a_0, v_a_1] 37 :: L) (Qx.R H0 L r)
 l1 : ∀ {H0 H : Hp} {L : Items} {r : Qg × Qg} {jk_ : Nat → Value} {a_0 : Bool} {a_1 : List Int} {b_0 : Bool} {b_1 : List Int} {rest : List Int} {q : List Int} {i : Int} {v_a_1 : Value} {v_b_1 : Value} {v_rest : Value} {v_q : Value} {i_q : Item'} {b_a : Nat} {b_b : Nat} {b_t4 : Nat} {b_t5 : Nat} (_ : H0.le H) (_he : h.l1 a_0 a_1 b_0 b_1 rest q i = some r) (_h_a_1 : Ro kI64 H v_a_1 a_1) (_h_b_1 : Ro kI64 H v_b_1 b_1) (_h_rest : Ro kI64 H v_rest rest) (_h_q : Sl kI64 H 3 i_q v_q q), Wp Tryz.prog 65 79 Qx.Kl1 (upd (upd (upd (upd (upd (upd (upd jk_ 2 (pt b_a)) 3 (pt b_b)) 4 (pt b_t4)) 5 (pt b_t5)) 6 (v_rest)) 7 (v_q)) 8 (.int .i64 i)) H (i_q :: bx b_t5 [.bool false, .slice none 0 0] 37 :: bx b_t4 [.bool false, .slice none 0 0] 37 :: bx b_b [.bool b_0, v_b_1] 37 :: bx b_a [.bool a_0, v_a_1] 37 :: L) (Qx.R H0 L r)
theorem Qx.b0_ok {k : Nat} {h : Qx.Hs} (hh : Qx.OK h) {H0 H : Hp} {L : Items} {r : Qg × Qg} {jk_ : Nat → Value} {a_0 : Bool} {a_1 : List Int} {b_0 : Bool} {b_1 rest q : List Int} {i : Int} {v_a_1 v_b_1 v_rest v_q : Value} {i_q : Item'} {b_a b_b b_t4 b_t5 : Nat} (hle : H0.le H) (he : Qx.b0 k h a_0 a_1 b_0 b_1 rest q i = some r) (h_a_1 : Ro kI64 H v_a_1 a_1) (h_b_1 : Ro kI64 H v_b_1 b_1) (h_rest : Ro kI64 H v_rest rest) (h_q : Sl kI64 H 3 i_q v_q q) : Wp Tryz.prog 65 79 Qx.Kl0 (upd (upd (upd (upd (upd (upd (upd jk_ 2 (pt b_a)) 3 (pt b_b)) 4 (pt b_t4)) 5 (pt b_t5)) 6 (v_rest)) 7 (v_q)) 8 (.int .i64 i)) H (i_q :: bx b_t5 [.bool false, .slice none 0 0] 37 :: bx b_t4 [.bool false, .slice none 0 0] 37 :: bx b_b [.bool b_0, v_b_1] 37 :: bx b_a [.bool a_0, v_a_1] 37 :: L) (Qx.R H0 L r) := by
 unfold Qx.b0 at he
 unfold Qx.Kl0
 refine QX <| wR rfl <| wM (.int .i64 i) rfl rfl <| w_d rfl (ZO rfl rfl) <| Qb ?_
 rcases its he with ⟨c9, he⟩ | ⟨c9, he⟩
 ·
  refine QD rfl (dt c9) <| QF <| QX <| Q2 <| wR rfl <| w_d rfl (Xi (o' := 1) Tryz.underlying37 rfl sz35 rfl rfl rfl) <| wL v_a_1 ty35 rfl rfl .h4 rfl rfl <| wM (.int .i64 i) rfl rfl <| rK he fun c10 he => w_d rfl (XA (sz := 1) Tryz.underlying35 sz3 rfl h_a_1.src rfl c10) <| w_d rfl (XR ty3 rfl h_a_1.src c10) ?_
  refine w_a rfl (o_buildSlice' (kd := kI64) (css := [[.int .i64 (rd a_1 i)]]) (xs := [rd a_1 i]) (parts := [(0, .int .i64 (rd a_1 i))]) Tryz.underlying35 ti3 rfl ⟨_, _, rfl, rfl, rfl⟩ ⟨rfl, trivial⟩ rfl (by decide)) ?_
  rintro v11 _ _ ⟨i12, rfl, rfl, h13⟩
  refine wM v_rest rfl rfl <| rK he fun c14 he => w_a rfl (o_append' (kd := kI64) (F := fun z_ => z_ :: i_q :: bx b_t5 [.bool false, .slice none 0 0] 37 :: bx b_t4 [.bool false, .slice none 0 0] 37 :: bx b_b [.bool b_0, v_b_1] 37 :: bx b_a [.bool a_0, v_a_1] 37 :: L) Tryz.underlying35 Tryz.underlying35 ti3 rfl (by first | omega | (simp only [List.nil_append, List.length_cons, List.length_nil]; omega)) rfl rfl h13 h_rest.src (fun _ => .here)) ?_
  rintro v15 _ _ ⟨i16, rfl, rfl, h17⟩
  refine Yx h17 .here ?_
  intro H18 e19 h20
  refine bK he fun y21 hy22 he => w_a rfl (Qm co67 (vs := [v15]) rfl (QJ.calls k hy22 h20)) ?_
  rintro v25 H23 _ ⟨rfl, e24, h26⟩
  refine wA v25 rfl rfl <| Qb <| Q2 <| X5 <| Yu .here <| w_sl 2 (pt b_a) rfl <| w_sl 3 (pt b_b) rfl <| w_sl 4 (pt b_t4) rfl <| w_sl 5 (pt b_t5) rfl <| w_sl 6 (v25) rfl <| w_sl 7 (v_q) rfl <| w_sl 8 (.int .i64 i) rfl <| hh.l1 (hle.trans (e19.trans e24)) he (h_a_1.mono (e19.trans e24)) (h_b_1.mono (e19.trans e24)) h26 (h_q.mono (e19.trans e24))
 ·
  refine QE rfl (df c9) <| X3 rfl <| QX <| Yx h_q .here ?_
  intro H27 e28 h29
  refine bK he fun y30 hy31 he => bK he fun y36 hy37 he => ?_
  refine YG (?_)
  refine XC (p := 9) (tl := [9]) [[], [(0, some 47)], [], [(2, some 49)], [(1, some 48), (3, some 50)], [], [(5, some 52)], [(4, some 51), (6, some 53)], []] [some 47, some 48, some 49, some 50, some 51, some 52, some 53, some 54, some 9] (fctF (.is (pt b_a) :: .is (.bool a_0) :: .is (pt b_b) :: .is (.bool b_0) :: .is (.bool (!(a_0 == b_0))) :: .is (v_q) :: .ro kI64 (y30) :: .of (Xu.out y36) (Xu.out_mono _) :: .box 37 [.bool false, .slice none 0 0] :: [])) (fun m_ => m_ 8 :: none :: bx b_t5 [.bool false, .slice none 0 0] 37 :: bx b_t4 [.bool false, .slice none 0 0] 37 :: bx b_b [.bool b_0, v_b_1] 37 :: bx b_a [.bool a_0, v_a_1] 37 :: L) (fun _ => none) mixed (by kernel_rfl) (by kernel_rfl) rfl (Xq (by kernel_rfl)) ⟨(fun H' m_ hH hm_ hu_ => dn <| s_d (m_ 0) rfl (Xi (o' := 0) Tryz.underlying37 rfl sz4 rfl rfl rfl) (by exact rfl) rfl), (by rintro H' m_ hH hm_ hu_ _ rfl; exact dn <| s_d (m_ 1) rfl (QN (v := .bool a_0) ty4 rfl .h5 rfl rfl rfl rfl) (by exact rfl) rfl), (fun H' m_ hH hm_ hu_ => dn <| s_d (m_ 2) rfl (Xi (o' := 0) Tryz.underlying37 rfl sz4 rfl rfl rfl) (by exact rfl) rfl), (by rintro H' m_ hH hm_ hu_ _ rfl; exact dn <| s_d (m_ 3) rfl (QN (v := .bool b_0) ty4 rfl .h4 rfl rfl rfl rfl) (by exact rfl) rfl), (by rintro H' m_ hH hm_ hu_ _ rfl _ rfl; exact dn <| s_d (m_ 4) rfl (G9 (a := a_0) (b := b_0) Tryz.underlying4 rfl rfl) (by exact rfl) rfl), (fun H' m_ hH hm_ hu_ => dn <| s_d (m_ 5) rfl (QT (v := v_q) rfl) (by exact rfl) rfl), (by rintro H' m_ hH hm_ hu_ _ rfl; exact dn <| s_k (m_ 6) rfl (Qm co67 (vs := [v_q]) rfl (QJ.calls k hy31 (h29.mono hH))) rfl (by rintro v_ H_ _ ⟨rfl, e_, h_⟩; exact ⟨rfl, e_, h_⟩)), (by rintro H' m_ hH hm_ hu_ _ rfl v34 (h35 : Ro kI64 H' v34 y30); exact dn <| s_k (m_ 7) rfl (Qm co66 (vs := [.bool (!(a_0 == b_0)), v34]) rfl (Xu.calls k hy37 h35)) rfl (by rintro v_ H_ _ ⟨rfl, e_, h_⟩; exact ⟨rfl, e_, h_⟩)), (fun H' m_ hH hm_ hu_ => dn <| Y8 hm_ rfl rfl (YT zr37 rfl) rfl (fun _ => .here) (by exact fun b_ => ⟨b_, rfl, rfl⟩)), trivial⟩ ?_
  intro H43 e44
  rintro _ _ rfl _ _ rfl _ _ rfl _ _ rfl _ _ rfl _ _ rfl v34 _ (h35 : Ro kI64 H43 v34 y30) _ _ ⟨v40, rfl, h41⟩ _ _ ⟨b42, rfl, rfl⟩
  refine wS (Qa y36 v40) sz37 rfl rfl rfl rfl rfl (Xe h41) .here u2 <| wQ rfl <| wM v_rest rfl rfl <| bK he fun y45 hy46 he => w_a rfl (Qm co66 (vs := [.bool false, v_rest]) rfl (Xu.calls k hy46 (h_rest.mono (e28.trans e44)))) ?_
  rintro _ H47 _ ⟨rfl, e48, v49, rfl, h50⟩
  refine wN zr37 rfl rfl fun b51 => wS (Qa y45 v49) sz37 rfl rfl rfl rfl rfl (Xe h50) .here u2 <| wE <| wR rfl <| w_d rfl (Xi (o' := 0) Tryz.underlying37 rfl sz4 rfl rfl rfl) <| w_d rfl (QN (v := .bool a_0) ty4 rfl .h6 rfl rfl rfl rfl) <| wM (.bool a_0) rfl rfl <| w_g (g := a_0) rfl rfl rfl wn_t (fun g52 => QT (v := v_rest) rfl) <| w_g (g := a_0) rfl rfl rfl wn_t (fun g53 => Xo Tryz.underlying35 (cvt g53) (h_rest.mono ((e28.trans e44).trans e48)).src) <| w_g (g := a_0) rfl rfl rfl wn_t (fun g54 => YV (cvt g54) rfl) ?_
  refine w_d rfl (d_and' (b := a_0) (p := (decide (0 < (rest.length : Int)))) rfl rfl rfl) <| Qb ?_
  rcases its he with ⟨c55, he⟩ | ⟨c55, he⟩
  ·
   refine QD rfl c55 <| wR rfl <| w_d rfl (Xi (o' := 1) Tryz.underlying37 rfl sz35 rfl rfl rfl) <| w_d rfl (QN (v := v_b_1) ty35 rfl .h5 rfl rfl rfl rfl) <| wM v_rest rfl rfl <| bK he fun y56 hy57 he => w_a rfl (Qm co70 (vs := [v_b_1, v_rest]) rfl (Qj.calls k hy57 ((h_b_1.mono ((e28.trans e44).trans e48)).src) ((h_rest.mono ((e28.trans e44).trans e48)).src))) ?_
   rintro v60 H58 _ ⟨rfl, e59, h61⟩
   refine bK he fun y62 hy63 he => w_a rfl (Qm co66 (vs := [.bool false, v60]) rfl (Xu.calls k hy63 h61)) ?_
   rintro _ H64 _ ⟨rfl, e65, v66, rfl, h67⟩
   refine wS (Qa y62 v66) sz37 rfl rfl rfl rfl rfl (Xe h67) .here u2 <| wQ rfl <| w_d rfl (Xi (o' := 0) Tryz.underlying37 rfl sz4 rfl rfl rfl) <| w_d rfl (QN (v := .bool b_0) ty4 rfl .h5 rfl rfl rfl rfl) <| Qb ?_
   rcases its he with ⟨c68, he⟩ | ⟨c68, he⟩
   ·
    refine QD rfl c68 <| bK he fun y69 hy70 he => XC (p := 2) (tl := [2, 3]) [[], []] [some 71, some 72] (fctF (.is (Qa y36 v40) :: .of (Qu.out y69) (Qu.out_mono _) :: [])) (fun m_ => bx b51 (QH y62 v66) 37 :: bx b42 (QH y36 v40) 37 :: none :: bx b_t5 [.bool false, .slice none 0 0] 37 :: bx b_t4 [.bool false, .slice none 0 0] 37 :: bx b_b [.bool b_0, v_b_1] 37 :: bx b_a [.bool a_0, v_a_1] 37 :: L) (fun _ => none) mixed (by kernel_rfl) (by kernel_rfl) rfl (Xq (by kernel_rfl)) ⟨(fun H' m_ hH hm_ hu_ => dn <| s_d (m_ 0) rfl (QN (v := (Qa y36 v40)) ty37 rfl .h1 rfl rfl rfl rfl) (by exact rfl) rfl), (fun H' m_ hH hm_ hu_ => dn <| s_k (m_ 1) rfl (Qm co16 (vs := [.int .i64 1]) rfl (Qu.calls k hy70)) rfl (by rintro v_ H_ _ ⟨rfl, e_, h_⟩; exact ⟨rfl, e_, h_⟩)), trivial⟩ ?_
    intro H75 e76
    rintro _ _ rfl _ _ ⟨v73, rfl, h74⟩
    refine bK he fun y77 hy78 he => w_a rfl (Qm co17 (vs := [(Qa y36 v40), (Qa y69 v73)]) rfl (XT.calls k (a := y36) (b := y69) hy78 (h41.mono (((e48.trans e59).trans e65).trans e76)) h74)) ?_
    rintro _ H79 _ ⟨rfl, e80, v81, rfl, h82⟩
    refine wS (Qa y77 v81) sz37 rfl rfl rfl rfl rfl (Xe h82) .h1 u2 <| wE <| XC (p := 3) (tl := [3]) [[], [], [(0, some 77)]] [some 77, some 78, none] (fctF (.is (Qa y77 v81) :: .is (Qa y62 v66) :: .itm (fun H itq_ => itq_ = bx b_t4 (QH y77 v81) 37) (by rintro _ _ _ hle rfl; exact rfl) :: [])) (fun m_ => bx b51 (QH y62 v66) 37 :: bx b42 (QH y77 v81) 37 :: none :: bx b_t5 [.bool false, .slice none 0 0] 37 :: m_ 2 :: bx b_b [.bool b_0, v_b_1] 37 :: bx b_a [.bool a_0, v_a_1] 37 :: L) (fun i_ => if i_ = 2 then bx b_t4 [.bool false, .slice none 0 0] 37 else none) mixed (by kernel_rfl) (by kernel_rfl) rfl (Xq (by kernel_rfl)) ⟨(fun H' m_ hH hm_ hu_ => dn <| s_d (m_ 0) rfl (QN (v := (Qa y77 v81)) ty37 rfl .h1 rfl rfl rfl rfl) (by exact rfl) rfl), (fun H' m_ hH hm_ hu_ => dn <| s_d (m_ 1) rfl (QN (v := (Qa y62 v66)) ty37 rfl .here rfl rfl rfl rfl) (by exact rfl) rfl), (by rintro H' m_ hH hm_ hu_ _ rfl; exact dn <| ZA (bx b_t4 (QH y77 v81) 37) hm_ rfl (YO (v := (Qa y77 v81)) sz37 rfl rfl rfl rfl (oc rfl (oc (h82.one) oz)) .h4 u2) rfl (by exact ⟨rfl, rfl⟩)), trivial⟩ ?_
    intro H83 e84
    rintro _ _ rfl _ _ rfl _ _ ⟨rfl, rfl⟩
    refine w_it (L' := bx b51 (QH y62 v66) 37 :: bx b42 (QH y77 v81) 37 :: none :: bx b_t5 [.bool false, .slice none 0 0] 37 :: bx b_t4 (QH y77 v81) 37 :: bx b_b [.bool b_0, v_b_1] 37 :: bx b_a [.bool a_0, v_a_1] 37 :: L) rfl <| wS (Qa y62 v66) sz37 rfl rfl rfl rfl rfl (Xe h67) .h3 u2 <| Qb ?_
    obtain rfl := sj he
    refine Ql fn_65 rs_65 (.box (v := (Qa y77 v81)) rfl ty37 rfl rfl .h4 rfl (.box (v := (Qa y62 v66)) rfl ty37 rfl rfl .h3 rfl .nil)) <| ⟨⟨[_, _, _, _, _, _, _], rfl⟩, hle.trans (((((((e28.trans e44).trans e48).trans e59).trans e65).trans e76).trans e80).trans e84), ⟨v81, v66, rfl, (h82.mono e84), (h67.mono ((e76.trans e80).trans e84))⟩⟩
   ·
    refine QE rfl (Bool.eq_false_iff.2 c68) <| bK he fun y85 hy86 he => XC (p := 2) (tl := [2, 3]) [[], []] [some 74, some 75] (fctF (.is (Qa y36 v40) :: .of (Qu.out y85) (Qu.out_mono _) :: [])) (fun m_ => bx b51 (QH y62 v66) 37 :: bx b42 (QH y36 v40) 37 :: none :: bx b_t5 [.bool false, .slice none 0 0] 37 :: bx b_t4 [.bool false, .slice none 0 0] 37 :: bx b_b [.bool b_0, v_b_1] 37 :: bx b_a [.bool a_0, v_a_1] 37 :: L) (fun _ => none) mixed (by kernel_rfl) (by kernel_rfl) rfl (Xq (by kernel_rfl)) ⟨(fun H' m_ hH hm_ hu_ => dn <| s_d (m_ 0) rfl (QN (v := (Qa y36 v40)) ty37 rfl .h1 rfl rfl rfl rfl) (by exact rfl) rfl), (fun H' m_ hH hm_ hu_ => dn <| s_k (m_ 1) rfl (Qm co16 (vs := [.int .i64 1]) rfl (Qu.calls k hy86)) rfl (by rintro v_ H_ _ ⟨rfl, e_, h_⟩; exact ⟨rfl, e_, h_⟩)), trivial⟩ ?_
    intro H91 e92
    rintro _ _ rfl _ _ ⟨v89, rfl, h90⟩
    refine bK he fun y93 hy94 he => w_a rfl (Qm co14 (vs := [(Qa y36 v40), (Qa y85 v89)]) rfl (YA.calls k (a := y36) (b := y85) hy94 (h41.mono (((e48.trans e59).trans e65).trans e92)) h90)) ?_
    rintro _ H95 _ ⟨rfl, e96, v97, rfl, h98⟩
    refine wS (Qa y93 v97) sz37 rfl rfl rfl rfl rfl (Xe h98) .h1 u2 <| wE <| XC (p := 3) (tl := [3]) [[], [], [(0, some 77)]] [some 77, some 78, none] (fctF (.is (Qa y93 v97) :: .is (Qa y62 v66) :: .itm (fun H itq_ => itq_ = bx b_t4 (QH y93 v97) 37) (by rintro _ _ _ hle rfl; exact rfl) :: [])) (fun m_ => bx b51 (QH y62 v66) 37 :: bx b42 (QH y93 v97) 37 :: none :: bx b_t5 [.bool false, .slice none 0 0] 37 :: m_ 2 :: bx b_b [.bool b_0, v_b_1] 37 :: bx b_a [.bool a_0, v_a_1] 37 :: L) (fun i_ => if i_ = 2 then bx b_t4 [.bool false, .slice none 0 0] 37 else none) mixed (by kernel_rfl) (by kernel_rfl) rfl (Xq (by kernel_rfl)) ⟨(fun H' m_ hH hm_ hu_ => dn <| s_d (m_ 0) rfl (QN (v := (Qa y93 v97)) ty37 rfl .h1 rfl rfl rfl rfl) (by exact rfl) rfl), (fun H' m_ hH hm_ hu_ => dn <| s_d (m_ 1) rfl (QN (v := (Qa y62 v66)) ty37 rfl .here rfl rfl rfl rfl) (by exact rfl) rfl), (by rintro H' m_ hH hm_ hu_ _ rfl; exact dn <| ZA (bx b_t4 (QH y93 v97) 37) hm_ rfl (YO (v := (Qa y93 v97)) sz37 rfl rfl rfl rfl (oc rfl (oc (h98.one) oz)) .h4 u2) rfl (by exact ⟨rfl, rfl⟩)), trivial⟩ ?_
    intro H99 e100
    rintro _ _ rfl _ _ rfl _ _ ⟨rfl, rfl⟩
    refine w_it (L' := bx b51 (QH y62 v66) 37 :: bx b42 (QH y93 v97) 37 :: none :: bx b_t5 [.bool false, .slice none 0 0] 37 :: bx b_t4 (QH y93 v97) 37 :: bx b_b [.bool b_0, v_b_1] 37 :: bx b_a [.bool a_0, v_a_1] 37 :: L) rfl <| wS (Qa y62 v66) sz37 rfl rfl rfl rfl rfl (Xe h67) .h3 u2 <| Qb ?_
    obtain rfl := sj he
    refine Ql fn_65 rs_65 (.box (v := (Qa y93 v97)) rfl ty37 rfl rfl .h4 rfl (.box (v := (Qa y62 v66)) rfl ty37 rfl rfl .h3 rfl .nil)) <| ⟨⟨[_, _, _, _, _, _, _], rfl⟩, hle.trans (((((((e28.trans e44).trans e48).trans e59).trans e65).trans e92).trans e96).trans e100), ⟨v97, v66, rfl, (h98.mono e100), (h67.mono ((e92.trans e96).trans e100))⟩⟩
  ·
   refine QE rfl (Bool.eq_false_iff.2 c55) <| QF <| QX <| XC (p := 3) (tl := [3]) [[], [], [(0, some 77)]] [some 77, some 78, none] (fctF (.is (Qa y36 v40) :: .is (Qa y45 v49) :: .itm (fun H itq_ => itq_ = bx b_t4 (QH y36 v40) 37) (by rintro _ _ _ hle rfl; exact rfl) :: [])) (fun m_ => bx b51 (QH y45 v49) 37 :: bx b42 (QH y36 v40) 37 :: none :: bx b_t5 [.bool false, .slice none 0 0] 37 :: m_ 2 :: bx b_b [.bool b_0, v_b_1] 37 :: bx b_a [.bool a_0, v_a_1] 37 :: L) (fun i_ => if i_ = 2 then bx b_t4 [.bool false, .slice none 0 0] 37 else none) mixed (by kernel_rfl) (by kernel_rfl) rfl (Xq (by kernel_rfl)) ⟨(fun H' m_ hH hm_ hu_ => dn <| s_d (m_ 0) rfl (QN (v := (Qa y36 v40)) ty37 rfl .h1 rfl rfl rfl rfl) (by exact rfl) rfl), (fun H' m_ hH hm_ hu_ => dn <| s_d (m_ 1) rfl (QN (v := (Qa y45 v49)) ty37 rfl .here rfl rfl rfl rfl) (by exact rfl) rfl), (by rintro H' m_ hH hm_ hu_ _ rfl; exact dn <| ZA (bx b_t4 (QH y36 v40) 37) hm_ rfl (YO (v := (Qa y36 v40)) sz37 rfl rfl rfl rfl (oc rfl (oc (h41.one) oz)) .h4 u2) rfl (by exact ⟨rfl, rfl⟩)), trivial⟩ ?_
   intro H101 e102
   rintro _ _ rfl _ _ rfl _ _ ⟨rfl, rfl⟩
   refine w_it (L' := bx b51 (QH y45 v49) 37 :: bx b42 (QH y36 v40) 37 :: none :: bx b_t5 [.bool false, .slice none 0 0] 37 :: bx b_t4 (QH y36 v40) 37 :: bx b_b [.bool b_0, v_b_1] 37 :: bx b_a [.bool a_0, v_a_1] 37 :: L) rfl <| wS (Qa y45 v49) sz37 rfl rfl rfl rfl rfl (Xe h50) .h3 u2 <| Qb ?_
   obtain rfl := sj he
   refine Ql fn_65 rs_65 (.box (v := (Qa y36 v40)) rfl ty37 rfl rfl .h4 rfl (.box (v := (Qa y45 v49)) rfl ty37 rfl rfl .h3 rfl .nil)) <| ⟨⟨[_, _, _, _, _, _, _], rfl⟩, hle.trans (((e28.trans e44).trans e48).trans e102), ⟨v40, v49, rfl, (h41.mono (e48.trans e102)), (h50.mono e102)⟩⟩
theorem Qx.b1_ok {k : Nat} {h : Qx.Hs} (hh : Qx.OK h) {H0 H : Hp} {L : Items} {r : Qg × Qg} {jk_ : Nat → Value} {a_0 : Bool} {a_1 : List Int} {b_0 : Bool} {b_1 rest q : List Int} {i : Int} {v_a_1 v_b_1 v_rest v_q : Value} {i_q : Item'} {b_a b_b b_t4 b_t5 : Nat} (hle : H0.le H) (he : Qx.b1 k h a_0 a_1 b_0 b_1 rest q i = some r) (h_a_1 : Ro kI64 H v_a_1 a_1) (h_b_1 : Ro kI64 H v_b_1 b_1) (h_rest : Ro kI64 H v_rest rest) (h_q : Sl kI64 H 3 i_q v_q q) : Wp Tryz.prog 65 79 Qx.Kl1 (upd (upd (upd (upd (upd (upd (upd jk_ 2 (pt b_a)) 3 (pt b_b)) 4 (pt b_t4)) 5 (pt b_t5)) 6 (v_rest)) 7 (v_q)) 8 (.int .i64 i)) H (i_q :: bx b_t5 [.bool false, .slice none 0 0] 37 :: bx b_t4 [.bool false, .slice none 0 0] 37 :: bx b_b [.bool b_0, v_b_1] 37 :: bx b_a [.bool a_0, v_a_1] 37 :: L) (Qx.R H0 L r) := by
 unfold Qx.b1 at he
 unfold Qx.Kl1
 refine QX <| wR rfl <| wM v_rest rfl rfl <| w_d rfl (Xi (o' := 1) Tryz.underlying37 rfl sz35 rfl rfl rfl) <| wL v_b_1 ty35 rfl rfl .h3 rfl rfl <| bK he fun y103 hy104 he => w_d rfl (Xx (Qm co69 (vs := [v_rest, v_b_1]) rfl (QS.calls k hy104 h_rest.src h_b_1.src))) <| w_d rfl (Zs (b := y103) rfl) <| Qb ?_
 rcases its he with ⟨c107, he⟩ | ⟨c107, he⟩
 ·
  refine QD rfl c107 <| QF <| Q2 <| wR rfl <| wM v_rest rfl rfl <| w_d rfl (Xi (o' := 1) Tryz.underlying37 rfl sz35 rfl rfl rfl) <| wL v_b_1 ty35 rfl rfl .h3 rfl rfl <| bK he fun y108 hy109 he => w_a rfl (Qm co70 (vs := [v_rest, v_b_1]) rfl (Qj.calls k hy109 h_rest.src h_b_1.src)) ?_
  rintro v112 H110 _ ⟨rfl, e111, h113⟩
  refine wA v112 rfl rfl <| Qb <| QL rfl <| wM v_q rfl rfl <| wM (.int .i64 i) rfl rfl <| rK he fun c114 he => w_d rfl (YM (sz := 1) Tryz.underlying35 sz3 rfl (h_q.mono e111).shp rfl c114) <| w_d rfl (XR ty3 rfl ((h_q.mono e111).src .here) c114) <| w_d rfl (XQ (c := w64 ((rd q i) + 1)) rfl rfl rfl) <| rK he fun c115 he => w_d rfl (YM (sz := 1) Tryz.underlying35 sz3 rfl (h_q.mono e111).shp rfl c115) <| w_a0 rfl (Y1 (kd := kI64) (v := .int .i64 (w64 ((rd q i) + 1))) (F := fun z_ => z_ :: bx b_t5 [.bool false, .slice none 0 0] 37 :: bx b_t4 [.bool false, .slice none 0 0] 37 :: bx b_b [.bool b_0, v_b_1] 37 :: bx b_a [.bool a_0, v_a_1] 37 :: L) sz3 rfl rfl rfl rfl (h_q.mono e111) c115 (fun _ => .here)) ?_
  rintro _ _ _ ⟨i116, rfl, rfl, rfl, h117⟩
  refine Qb <| Xw <| XG <| w_sl 2 (pt b_a) rfl <| w_sl 3 (pt b_b) rfl <| w_sl 4 (pt b_t4) rfl <| w_sl 5 (pt b_t5) rfl <| w_sl 6 (v112) rfl <| w_sl 7 (v_q) rfl <| w_sl 8 (.int .i64 i) rfl <| hh.l1 (hle.trans e111) he (h_a_1.mono e111) (h_b_1.mono e111) h113 h117
 ·
  refine QE rfl (Bool.eq_false_iff.2 c107) <| X3 rfl <| Xw <| QL rfl <| wM (.int .i64 i) rfl rfl <| w_d rfl (YE (c := w64 (i - 1)) rfl rfl rfl) <| wA (.int .i64 (w64 (i - 1))) rfl rfl <| Qb <| XG <| w_sl 2 (pt b_a) rfl <| w_sl 3 (pt b_b) rfl <| w_sl 4 (pt b_t4) rfl ?_
  refine w_sl 5 (pt b_t5) rfl <| w_sl 6 (v_rest) rfl <| w_sl 7 (v_q) rfl <| w_sl 8 (.int .i64 (w64 (i - 1))) rfl <| hh.l0 hle he h_a_1 h_b_1 h_rest h_q
theorem Qx.ok : ∀ k, Qx.OK (Qx.hs k)
 | 0 => ⟨(by intros; exact nomatch (show none = some _ from by assumption)), (by intros; exact nomatch (show none = some _ from by assumption))⟩
 | k + 1 => ⟨Qx.b0_ok (k := k) (Qx.ok k), Qx.b1_ok (k := k) (Qx.ok k)⟩
theorem Qx.calls (k : Nat) {H : Hp} {L : Items} {a b : Qg} {v0_a v1_b : Value} {r : Qg × Qg} (he : Qx.f k a b = some r) (h0_a : Ro kI64 H v0_a a.f_D) (h1_b : Ro kI64 H v1_b b.f_D) : Ct Tryz.prog 65 ⟨[(Qa a v0_a), (Qa b v1_b)]⟩ H L (cR H L (Qx.out r)) := by
 refine XN (O := Qx.out r) ?_
 have hle : H.le H := .refl _
 have hh := Qx.ok k
 unfold Qx.f at he
 refine QV (args := [_, _]) fn_65 rfl nt_65 rfl <| wR rfl <| wB (Qa a v0_a) rfl rfl rfl <| fun b1 => wB (Qa b v1_b) rfl rfl rfl <| fun b2 => wN zr37 rfl rfl fun b3 => wN zr37 rfl rfl fun b4 => wQ rfl <| wA (.slice none 0 0) rfl rfl <| Qb ?_
 refine wR rfl <| w_d rfl (Xi (o' := 1) Tryz.underlying37 rfl sz35 rfl rfl rfl) <| wL v0_a ty35 rfl rfl .h3 rfl rfl <| w_d rfl (Xo Tryz.underlying35 rfl h0_a.src) <| rK he fun c5 he => w_a rfl (o_make' (kd := kI64) (z0 := 0) Tryz.underlying35 ti3 (zp3 _) rfl rfl (by omega) (by omega) (by omega)) ?_
 rintro v6 _ _ ⟨i7, rfl, rfl, h8⟩
 refine wA v6 rfl rfl <| wE <| wR rfl <| w_d rfl (Xi (o' := 1) Tryz.underlying37 rfl sz35 rfl rfl rfl) <| wL v0_a ty35 rfl rfl .h4 rfl rfl <| w_d rfl (Xo Tryz.underlying35 rfl h0_a.src) <| w_d rfl (YE (c := w64 ((a.f_D.length : Int) - 1)) rfl rfl rfl) <| wA (.int .i64 (w64 ((a.f_D.length : Int) - 1))) rfl rfl <| Qb <| Q2 ?_
 refine X5 <| w_sl 2 (pt b1) rfl <| w_sl 3 (pt b2) rfl <| w_sl 4 (pt b3) rfl <| w_sl 5 (pt b4) rfl <| w_sl 6 (.slice none 0 0) rfl <| w_sl 7 (v6) rfl <| w_sl 8 (.int .i64 (w64 ((a.f_D.length : Int) - 1))) rfl <| hh.l0 hle he h0_a h1_b (Xj _ _) h8
noncomputable def QB.C : Code := (Tryz.f13.body).getD .skip
def QB.out (r : Qh) (H : Hp) (v : Value) : Prop := ∃ v0 v1, v = (Qn r v0 v1) ∧ Ro kI64 H v0 r.f_N.f_D ∧ Ro kI64 H v1 r.f_D.f_D
abbrev QB.R (H0 : Hp) (L : Items) (r : Qh) := fR H0 L (QB.out r)
structure QB.Hs where
 l0 : Bool → (List Int) → Bool → (List Int) → Bool → (List Int) → Bool → (List Int) → Option Qh
noncomputable def QB.j1 (k : Nat) (h : QB.Hs) (n_0 : Bool) (n_1 : List Int) (d_0 : Bool) (d_1 : List Int) : Option Qh := (Ye.f k ⟨n_0, n_1⟩).bind fun y23 => h.l0 n_0 n_1 d_0 d_1 y23.f_Neg y23.f_D d_0 d_1
noncomputable def QB.b0 (k : Nat) (h : QB.Hs) (n_0 : Bool) (n_1 : List Int) (d_0 : Bool) (d_1 : List Int) (a_0 : Bool) (a_1 : List Int) (b_0 : Bool) (b_1 : List Int) : Option Qh := (X2.f k ⟨b_0, b_1⟩).bind fun y37 => if y37 = 0 then ((Qx.f k ⟨n_0, n_1⟩ ⟨a_0, a_1⟩).bind fun y42 => (Qx.f k ⟨d_0, d_1⟩ ⟨a_0, a_1⟩).bind fun y52 => some (⟨y42.1, y52.1⟩)) else ((Qx.f k ⟨a_0, a_1⟩ ⟨b_0, b_1⟩).bind fun y62 => h.l0 n_0 n_1 d_0 d_1 b_0 b_1 y62.2.f_Neg y62.2.f_D)
noncomputable def QB.hs : Nat → QB.Hs
 | 0 => ⟨fun _ _ _ _ _ _ _ _ => none⟩
 | k + 1 => ⟨fun x0 x1 x2 x3 x4 x5 x6 x7 => QB.b0 k (QB.hs k) x0 x1 x2 x3 x4 x5 x6 x7⟩
noncomputable def QB.f (k : Nat) (n d : Qg) : Option Qh := (fun h : QB.Hs => (X2.f k d).bind fun y4 => if y4 < 0 then ((XS.f k n).bind fun y9 => (XS.f k d).bind fun y17 => QB.j1 k h y9.f_Neg y9.f_D y17.f_Neg y17.f_D) else (QB.j1 k h n.f_Neg n.f_D d.f_Neg d.f_D)) (QB.hs k)
noncomputable def QB.Kj1 : List Item := .code (seqR (seqR QB.C)) :: []
noncomputable def QB.Kl0 : List Item := .code (lopB (blkB (seqL (seqR (seqR (seqR QB.C)))))) :: .inLoop (lopB (blkB (seqL (seqR (seqR (seqR QB.C)))))) :: .inBlock 0 :: .code (seqR (seqR (seqR (seqR QB.C)))) :: []
structure QB.OK (h : QB.Hs) : Prop where
 l0 : ∀ {H0 H : Hp} {L : Items} {r : Qh} {jk_ : Nat → Value} {n_0 : Bool} {n_1 : List Int} {d_0 : Bool} {d_1 : List Int} {a_0 : Bool} {a_1 : List Int} {b_0 : Bool} {b_1 : List Int} {v_n_1 : Value} {v_d_1 : Value} {v_a_1 : Value} {v_b_1 : Value} {b_n : Nat} {b_d : Nat} {b_t4 : Nat} {b_a : Nat} {b_b : Nat} (_ : H0.le H) (_he : h.l0 n_0 n_1 d_0 d_1 a_0 a_1 b_0 b_1 = some r) (_h_n_1 : Ro kI64 H v_n_1 n_1) (_h_d_1 : Ro kI64 H v_d_1 d_1) (_h_a_1 : Ro kI64 H v_a_1 a_1) (_h_b_1 : Ro kI64 H v_b_1 b_1), Wp Tryz.prog 13 49 QB.Kl0 (upd (upd (upd (upd (upd jk_ 2 (pt b_n)) 3 (pt b_d)) 4 (pt b_t4)) 5 (pt b_a)) 6 (pt b_b)) H (bx b_a [.bool a_0, v_a_1] 37 :: bx b_b [.bool b_0, v_b_1] 37 :: bx b_t4 z0c 40 :: bx b_d [.bool d_0, v_d_1] 37 :: bx b_n [.bool n_0, v_n_1] 37 :: L) (QB.R H0 L r)
theorem QB.j1_ok {k : Nat} {h : QB.Hs} (hh : QB.OK h) {H0 H : Hp} {L : Items} {r : Qh} {jk_ : Nat → Value} {n_0 : Bool} {n_1 : List Int} {d_0 : Bool} {d_1 : List Int} {v_n_1 v_d_1 : Value} {b_n b_d b_t4 : Nat} (hle : H0.le H) (he : QB.j1 k h n_0 n_1 d_0 d_1 = some r) (h_n_1 : Ro kI64 H v_n_1 n_1) (h_d_1 : Ro kI64 H v_d_1 d_1) : Wp Tryz.prog 13 49 QB.Kj1 (upd (upd (upd jk_ 2 (pt b_n)) 3 (pt b_d)) 4 (pt b_t4)) H (bx b_t4 z0c 40 :: bx b_d [.bool d_0, v_d_1] 37 :: bx b_n [.bool n_0, v_n_1] 37 :: L) (QB.R H0 L r) := by
 unfold QB.j1 at he
 unfold QB.Kj1
 refine QX <| bK he fun y23 hy24 he => ?_
 refine YG (YG (?_))
 refine XC (p := 6) (tl := [6]) [[], [(0, some 20)], [], [], [], [(1, some 21), (3, some 5)]] [some 20, some 21, some 22, some 5, some 6, none] (fctF (.is (.agg ⟨[.bool n_0, v_n_1]⟩) :: .of (Ye.out y23) (Ye.out_mono _) :: .is (.agg ⟨[.bool d_0, v_d_1]⟩) :: .box 37 [.bool false, .slice none 0 0] :: .box 37 [.bool false, .slice none 0 0] :: .st 3 (fun H bq_ itq_ => ∃ v31, itq_ = bx bq_ (QH y23 v31) 37 ∧ Ro kI64 H v31 y23.f_D) (by rintro _ _ _ _ hle ⟨v31, rfl, h32⟩; exact ⟨v31, rfl, h32.mono hle⟩) :: [])) (fun m_ => pk (m_ 5) (m_ 3) :: m_ 4 :: bx b_t4 z0c 40 :: bx b_d [.bool d_0, v_d_1] 37 :: bx b_n [.bool n_0, v_n_1] 37 :: L) (fun _ => none) mixed (by kernel_rfl) (by kernel_rfl) rfl (Xq (by kernel_rfl)) ⟨(fun H' m_ hH hm_ hu_ => dn <| s_d (m_ 0) rfl (QN (v := .agg ⟨[.bool n_0, v_n_1]⟩) ty37 rfl .h4 rfl rfl rfl rfl) (by exact rfl) rfl), (by rintro H' m_ hH hm_ hu_ _ rfl; exact dn <| s_k (m_ 1) rfl (Qm co64 (vs := [.agg ⟨[.bool n_0, v_n_1]⟩]) rfl (Ye.calls k (a := ⟨n_0, n_1⟩) hy24 (h_n_1.mono hH))) rfl (by rintro v_ H_ _ ⟨rfl, e_, h_⟩; exact ⟨rfl, e_, h_⟩)), (fun H' m_ hH hm_ hu_ => dn <| s_d (m_ 2) rfl (QN (v := .agg ⟨[.bool d_0, v_d_1]⟩) ty37 rfl .h3 rfl rfl rfl rfl) (by exact rfl) rfl), (fun H' m_ hH hm_ hu_ => dn <| Y8 hm_ rfl rfl (YT zr37 rfl) rfl (fun _ => (ZZ (hu_ 5 (by kernel_rfl)))) (by exact fun b_ => ⟨b_, rfl, rfl⟩)), (fun H' m_ hH hm_ hu_ => dn <| Y8 hm_ rfl rfl (YT zr37 rfl) rfl (fun _ => .h1) (by exact fun b_ => ⟨b_, rfl, rfl⟩)), (by rintro H' m_ hH hm_ hu_ _ ⟨v27, rfl, h28⟩ _ ⟨b29, rfl, hb29_⟩; exact dn <| Zv (Λ' := fun z_ => z_ :: m_ 4 :: bx b_t4 z0c 40 :: bx b_d [.bool d_0, v_d_1] 37 :: bx b_n [.bool n_0, v_n_1] 37 :: L) (bx b29 (QH y23 v27) 37) hm_ rfl hb29_ rfl (YO (v := (Qa y23 v27)) sz37 rfl rfl rfl rfl (oc rfl (oc (h28.one) oz)) .here u2) rfl rfl (by exact ⟨rfl, v27, congrArg (fun b_ => (some (b_, Obj.cells ⟨(QH y23 v27)⟩ 37 (0, 0)) : Item')) (Z2 hb29_).symm, h28⟩)), trivial⟩ ?_
 intro H35 e36
 rintro _ _ rfl _ _ ⟨v27, rfl, h28⟩ _ _ rfl _ _ ⟨b29, rfl, rfl⟩ _ _ ⟨b30, rfl, rfl⟩ _ i33 ⟨rfl, v31, h34, h32⟩
 replace h34 : i33 = bx b29 (QH y23 v31) 37 := h34
 subst h34
 refine w_it (L' := bx b29 (QH y23 v31) 37 :: bx b30 [.bool false, .slice none 0 0] 37 :: bx b_t4 z0c 40 :: bx b_d [.bool d_0, v_d_1] 37 :: bx b_n [.bool n_0, v_n_1] 37 :: L) rfl <| wS (.agg ⟨[.bool d_0, v_d_1]⟩) sz37 rfl rfl rfl rfl rfl (oc rfl (oc (h_d_1.one) oz)) .h1 u2 <| wE <| Q2 <| X5 <| w_sl 2 (pt b_n) rfl <| w_sl 3 (pt b_d) rfl <| w_sl 4 (pt b_t4) rfl <| w_sl 5 (pt b29) rfl <| w_sl 6 (pt b30) rfl <| hh.l0 (hle.trans e36) he (h_n_1.mono e36) (h_d_1.mono e36) h32 (h_d_1.mono e36)
theorem QB.b0_ok {k : Nat} {h : QB.Hs} (hh : QB.OK h) {H0 H : Hp} {L : Items} {r : Qh} {jk_ : Nat → Value} {n_0 : Bool} {n_1 : List Int} {d_0 : Bool} {d_1 : List Int} {a_0 : Bool} {a_1 : List Int} {b_0 : Bool} {b_1 : List Int} {v_n_1 v_d_1 v_a_1 v_b_1 : Value} {b_n b_d b_t4 b_a b_b : Nat} (hle : H0.le H) (he : QB.b0 k h n_0 n_1 d_0 d_1 a_0 a_1 b_0 b_1 = some r) (h_n_1 : Ro kI64 H v_n_1 n_1) (h_d_1 : Ro kI64 H v_d_1 d_1) (h_a_1 : Ro kI64 H v_a_1 a_1) (h_b_1 : Ro kI64 H v_b_1 b_1) : Wp Tryz.prog 13 49 QB.Kl0 (upd (upd (upd (upd (upd jk_ 2 (pt b_n)) 3 (pt b_d)) 4 (pt b_t4)) 5 (pt b_a)) 6 (pt b_b)) H (bx b_a [.bool a_0, v_a_1] 37 :: bx b_b [.bool b_0, v_b_1] 37 :: bx b_t4 z0c 40 :: bx b_d [.bool d_0, v_d_1] 37 :: bx b_n [.bool n_0, v_n_1] 37 :: L) (QB.R H0 L r) := by
 unfold QB.b0 at he
 unfold QB.Kl0
 refine QX <| wR rfl <| wL (.agg ⟨[.bool b_0, v_b_1]⟩) ty37 rfl rfl .h1 rfl rfl <| bK he fun y37 hy38 he => w_d rfl (Xx (Qm co62 (vs := [.agg ⟨[.bool b_0, v_b_1]⟩]) rfl (X2.calls k (a := ⟨b_0, b_1⟩) hy38 h_b_1))) <| w_d rfl (Zl rfl rfl) <| Qb ?_
 rcases its he with ⟨c41, he⟩ | ⟨c41, he⟩
 ·
  refine QE rfl (nd_t c41) <| X3 rfl <| wR rfl <| wL (.agg ⟨[.bool n_0, v_n_1]⟩) ty37 rfl rfl .h4 rfl rfl <| wL (.agg ⟨[.bool a_0, v_a_1]⟩) ty37 rfl rfl .here rfl rfl <| bK he fun y42 hy43 he => w_a rfl (Qm co65 (vs := [.agg ⟨[.bool n_0, v_n_1]⟩, .agg ⟨[.bool a_0, v_a_1]⟩]) rfl (Qx.calls k (a := ⟨n_0, n_1⟩) (b := ⟨a_0, a_1⟩) hy43 h_n_1 h_a_1)) ?_
  rintro _ H44 _ ⟨rfl, e45, v46, v48, rfl, h47, h49⟩
  refine wM (.tuple ⟨[(Qa y42.1 v46), (Qa y42.2 v48)]⟩) rfl rfl <| w_d rfl (Q5 rfl rfl) <| w_d rfl (Q5 rfl rfl) <| wN zr37 rfl rfl fun b50 => wN zr37 rfl rfl fun b51 => wS (Qa y42.1 v46) sz37 rfl rfl rfl rfl rfl (Xe h47) .h1 u2 <| wS (Qa y42.2 v48) sz37 rfl rfl rfl rfl rfl (Xe h49) .here u2 <| wQ rfl <| w_d rfl (QN (v := .agg ⟨[.bool d_0, v_d_1]⟩) ty37 rfl .h5 rfl rfl rfl rfl) <| wL (.agg ⟨[.bool a_0, v_a_1]⟩) ty37 rfl rfl .h2 rfl rfl ?_
  refine bK he fun y52 hy53 he => w_a rfl (Qm co65 (vs := [.agg ⟨[.bool d_0, v_d_1]⟩, .agg ⟨[.bool a_0, v_a_1]⟩]) rfl (Qx.calls k (a := ⟨d_0, d_1⟩) (b := ⟨a_0, a_1⟩) hy53 (h_d_1.mono e45) (h_a_1.mono e45))) ?_
  rintro _ H54 _ ⟨rfl, e55, v56, v58, rfl, h57, h59⟩
  refine wM (.tuple ⟨[(Qa y52.1 v56), (Qa y52.2 v58)]⟩) rfl rfl <| w_d rfl (Q5 rfl rfl) <| w_d rfl (Q5 rfl rfl) <| wN zr37 rfl rfl fun b60 => wN zr37 rfl rfl fun b61 => wS (Qa y52.1 v56) sz37 rfl rfl rfl rfl rfl (Xe h57) .h1 u2 <| wS (Qa y52.2 v58) sz37 rfl rfl rfl rfl rfl (Xe h59) .here u2 <| wQ rfl <| wL (Qa y42.1 v46) ty37 rfl rfl .h3 rfl rfl <| wL (Qa y52.1 v56) ty37 rfl rfl .h1 rfl rfl ?_
  refine w_d rfl (XE (cs' := [.bool y42.1.f_Neg, v46, .bool y52.1.f_Neg, v56]) Tryz.underlying40 zr40 rfl (by kernel_rfl) (parts := [(0, (Qa y42.1 v46)), (1, (Qa y52.1 v56))]) rfl (.cons (YH rfl sz37 rfl) rfl rfl u2 (.cons (YH rfl sz37 rfl) rfl rfl (.there (.there u2)) .nil))) <| wS (.agg ⟨[.bool y42.1.f_Neg, v46, .bool y52.1.f_Neg, v56]⟩) sz40 rfl rfl rfl rfl rfl (oc rfl (oc (h47.one) (oc rfl (oc (h57.one) oz)))) .h6 u4 <| Qb ?_
  obtain rfl := sj he
  refine Ql fn_13 rs_13 (.box (v := .agg ⟨[.bool y42.1.f_Neg, v46, .bool y52.1.f_Neg, v56]⟩) rfl ty40 rfl rfl .h6 rfl .nil) <| ⟨⟨[_, _, _, _, _, _, _, _, _], rfl⟩, hle.trans (e45.trans e55), ⟨v46, v56, rfl, (h47.mono e55), h57⟩⟩
 ·
  refine QD rfl (nd_f c41) <| QF <| Q2 <| wR rfl <| wL (.agg ⟨[.bool a_0, v_a_1]⟩) ty37 rfl rfl .here rfl rfl <| wL (.agg ⟨[.bool b_0, v_b_1]⟩) ty37 rfl rfl .h1 rfl rfl <| bK he fun y62 hy63 he => w_a rfl (Qm co65 (vs := [.agg ⟨[.bool a_0, v_a_1]⟩, .agg ⟨[.bool b_0, v_b_1]⟩]) rfl (Qx.calls k (a := ⟨a_0, a_1⟩) (b := ⟨b_0, b_1⟩) hy63 h_a_1 h_b_1)) ?_
  rintro _ H64 _ ⟨rfl, e65, v66, v68, rfl, h67, h69⟩
  refine wM (.tuple ⟨[(Qa y62.1 v66), (Qa y62.2 v68)]⟩) rfl rfl <| w_d rfl (Q5 rfl rfl) <| w_d rfl (Q5 rfl rfl) <| wN zr37 rfl rfl fun b70 => wN zr37 rfl rfl fun b71 => wS (Qa y62.1 v66) sz37 rfl rfl rfl rfl rfl (Xe h67) .h1 u2 <| wS (Qa y62.2 v68) sz37 rfl rfl rfl rfl rfl (Xe h69) .here u2 <| Qb <| XC (p := 3) (tl := [3]) [[], [], [(0, some 32)]] [some 32, some 33, none] (fctF (.is (.agg ⟨[.bool b_0, v_b_1]⟩) :: .is (Qa y62.2 v68) :: .itm (fun H itq_ => itq_ = bx b_a [.bool b_0, v_b_1] 37) (by rintro _ _ _ hle rfl; exact rfl) :: [])) (fun m_ => bx b71 (QH y62.2 v68) 37 :: bx b70 (QH y62.1 v66) 37 :: m_ 2 :: bx b_b [.bool b_0, v_b_1] 37 :: bx b_t4 z0c 40 :: bx b_d [.bool d_0, v_d_1] 37 :: bx b_n [.bool n_0, v_n_1] 37 :: L) (fun i_ => if i_ = 2 then bx b_a [.bool a_0, v_a_1] 37 else none) mixed (by kernel_rfl) (by kernel_rfl) rfl (Xq (by kernel_rfl)) ⟨(fun H' m_ hH hm_ hu_ => dn <| s_d (m_ 0) rfl (QN (v := .agg ⟨[.bool b_0, v_b_1]⟩) ty37 rfl .h3 rfl rfl rfl rfl) (by exact rfl) rfl), (fun H' m_ hH hm_ hu_ => dn <| s_d (m_ 1) rfl (QN (v := (Qa y62.2 v68)) ty37 rfl .here rfl rfl rfl rfl) (by exact rfl) rfl), (by rintro H' m_ hH hm_ hu_ _ rfl; exact dn <| ZA (bx b_a [.bool b_0, v_b_1] 37) hm_ rfl (YO (v := .agg ⟨[.bool b_0, v_b_1]⟩) sz37 rfl rfl rfl rfl (oc rfl (oc (h_b_1.one) oz)) .h2 u2) rfl (by exact ⟨rfl, rfl⟩)), trivial⟩ ?_
  intro H72 e73
  rintro _ _ rfl _ _ rfl _ _ ⟨rfl, rfl⟩
  refine w_it (L' := bx b71 (QH y62.2 v68) 37 :: bx b70 (QH y62.1 v66) 37 :: bx b_a [.bool b_0, v_b_1] 37 :: bx b_b [.bool b_0, v_b_1] 37 :: bx b_t4 z0c 40 :: bx b_d [.bool d_0, v_d_1] 37 :: bx b_n [.bool n_0, v_n_1] 37 :: L) rfl <| wS (Qa y62.2 v68) sz37 rfl rfl rfl rfl rfl (Xe h69) .h3 u2 <| Qb <| Xw <| XG <| Yu .h1 <| Yu .here <| w_sl 2 (pt b_n) rfl <| w_sl 3 (pt b_d) rfl <| w_sl 4 (pt b_t4) rfl <| w_sl 5 (pt b_a) rfl <| w_sl 6 (pt b_b) rfl <| hh.l0 (hle.trans (e65.trans e73)) he (h_n_1.mono (e65.trans e73)) (h_d_1.mono (e65.trans e73)) (h_b_1.mono (e65.trans e73)) (h69.mono e73)
theorem QB.ok : ∀ k, QB.OK (QB.hs k)
 | 0 => ⟨(by intros; exact nomatch (show none = some _ from by assumption))⟩
 | k + 1 => ⟨QB.b0_ok (k := k) (QB.ok k)⟩
theorem QB.calls (k : Nat) {H : Hp} {L : Items} {n d : Qg} {v0_n v1_d : Value} {r : Qh} (he : QB.f k n d = some r) (h0_n : Ro kI64 H v0_n n.f_D) (h1_d : Ro kI64 H v1_d d.f_D) : Ct Tryz.prog 13 ⟨[(Qa n v0_n), (Qa d v1_d)]⟩ H L (cR H L (QB.out r)) := by
 refine XN (O := QB.out r) ?_
 have hle : H.le H := .refl _
 have hh := QB.ok k
 unfold QB.f at he
 refine QV (args := [_, _]) fn_13 rfl nt_13 rfl <| wR rfl <| wB (Qa n v0_n) rfl rfl rfl <| fun b1 => wB (Qa d v1_d) rfl rfl rfl <| fun b2 => wN zr40 rfl rfl fun b3 => wE <| wR rfl <| wL (Qa d v1_d) ty37 rfl rfl .h1 rfl rfl <| bK he fun y4 hy5 he => ?_
 refine w_d rfl (Xx (Qm co62 (vs := [(Qa d v1_d)]) rfl (X2.calls k (a := d) hy5 h1_d))) <| w_d rfl (XW rfl rfl) <| Qb ?_
 rcases its he with ⟨c8, he⟩ | ⟨c8, he⟩
 ·
  refine QD rfl (dt c8) <| bK he fun y9 hy10 he => XC (p := 3) (tl := [3, 4, 5]) [[], [(0, some 16)], []] [some 16, some 17, some 18] (fctF (.is (Qa n v0_n) :: .of (XS.out y9) (XS.out_mono _) :: .is (Qa d v1_d) :: [])) (fun m_ => bx b3 z0c 40 :: bx b2 (QH d v1_d) 37 :: bx b1 (QH n v0_n) 37 :: L) (fun _ => none) mixed (by kernel_rfl) (by kernel_rfl) rfl (Xq (by kernel_rfl)) ⟨(fun H' m_ hH hm_ hu_ => dn <| s_d (m_ 0) rfl (QN (v := (Qa n v0_n)) ty37 rfl .h2 rfl rfl rfl rfl) (by exact rfl) rfl), (by rintro H' m_ hH hm_ hu_ _ rfl; exact dn <| s_k (m_ 1) rfl (Qm co63 (vs := [(Qa n v0_n)]) rfl (XS.calls k (a := n) hy10 (h0_n.mono hH))) rfl (by rintro v_ H_ _ ⟨rfl, e_, h_⟩; exact ⟨rfl, e_, h_⟩)), (fun H' m_ hH hm_ hu_ => dn <| s_d (m_ 2) rfl (QN (v := (Qa d v1_d)) ty37 rfl .h1 rfl rfl rfl rfl) (by exact rfl) rfl), trivial⟩ ?_
  intro H15 e16
  rintro _ _ rfl _ _ ⟨v13, rfl, h14⟩ _ _ rfl
  refine bK he fun y17 hy18 he => w_a rfl (Qm co63 (vs := [(Qa d v1_d)]) rfl (XS.calls k (a := d) hy18 (h1_d.mono e16))) ?_
  rintro _ H19 _ ⟨rfl, e20, v21, rfl, h22⟩
  refine wS (Qa y9 v13) sz37 rfl rfl rfl rfl rfl (Xe h14) .h2 u2 <| wS (Qa y17 v21) sz37 rfl rfl rfl rfl rfl (Xe h22) .h1 u2 <| Qb <| w_sl 2 (pt b1) rfl <| w_sl 3 (pt b2) rfl <| w_sl 4 (pt b3) rfl <| QB.j1_ok (k := k) hh (hle.trans (e16.trans e20)) he (h14.mono e20) h22
 ·
  refine QE rfl (df c8) <| QF <| w_sl 2 (pt b1) rfl <| w_sl 3 (pt b2) rfl <| w_sl 4 (pt b3) rfl <| QB.j1_ok (k := k) hh hle he h0_n h1_d
noncomputable def XJ.C : Code := (Tryz.f43.body).getD .skip
def XJ.out (r : Qh) (H : Hp) (v : Value) : Prop := ∃ v0 v1, v = (Qn r v0 v1) ∧ Ro kI64 H v0 r.f_N.f_D ∧ Ro kI64 H v1 r.f_D.f_D
theorem XJ.out_mono (r : Qh) {H H' : Hp} {v : Value} (hle : H.le H') (h : XJ.out r H v) : XJ.out r H' v := by
 obtain ⟨v0, v1, rfl, h0, h1⟩ := h; exact ⟨v0, v1, rfl, h0.mono hle, h1.mono hle⟩
noncomputable def XJ.f (k : Nat) (n : Int) : Option Qh := (Qu.f k n).bind fun y2 => (Qq.f k 20).bind fun y8 => (QB.f k y2 y8).bind fun y14 => some (y14)
theorem XJ.calls (k : Nat) {H : Hp} {L : Items} {n : Int} {r : Qh} (he : XJ.f k n = some r) : Ct Tryz.prog 43 ⟨[.int .i64 n]⟩ H L (cR H L (XJ.out r)) := by
 refine XN (O := XJ.out r) ?_
 have hle : H.le H := .refl _
 unfold XJ.f at he
 refine QV (args := [_]) fn_43 rfl nt_43 rfl <| wR rfl <| wN zr40 rfl rfl fun b1 => wQ rfl <| wM (.int .i64 n) rfl rfl <| bK he fun y2 hy3 he => w_a rfl (Qm co16 (vs := [.int .i64 n]) rfl (Qu.calls k hy3)) ?_
 rintro _ H4 _ ⟨rfl, e5, v6, rfl, h7⟩
 refine bK he fun y8 hy9 he => w_a rfl (Qm co12 (vs := [.int .i64 20]) rfl (Qq.calls k hy9)) ?_
 rintro _ H10 _ ⟨rfl, e11, v12, rfl, h13⟩
 refine bK he fun y14 hy15 he => w_a rfl (Qm co13 (vs := [(Qa y2 v6), (Qa y8 v12)]) rfl (QB.calls k (n := y2) (d := y8) hy15 (h7.mono e11) h13)) ?_
 rintro _ H16 _ ⟨rfl, e17, v18, v20, rfl, h19, h21⟩
 refine wS (Qn y14 v18 v20) sz40 rfl rfl rfl rfl rfl (Yl h19 h21) .here u4 <| Qb ?_
 obtain rfl := sj he
 refine Ql fn_43 rs_43 (.box (v := (Qn y14 v18 v20)) rfl ty40 rfl rfl .here rfl .nil) <| ⟨⟨[_], rfl⟩, hle.trans ((e5.trans e11).trans e17), ⟨v18, v20, rfl, h19, h21⟩⟩
noncomputable def Qt.C : Code := (Tryz.f99.body).getD .skip
def Qt.out (r : ByteArray) (H : Hp) (v : Value) : Prop := v = .string r
abbrev Qt.R (H0 : Hp) (L : Items) (r : ByteArray) := fR H0 L (Qt.out r)
structure Qt.Hs where
 l0 : Bool → (List Int) → ByteArray → ByteArray → Int → Option ByteArray
noncomputable def Qt.j1 (k : Nat) (h : Qt.Hs) (a_0 : Bool) (a_1 : List Int) (t2 s : ByteArray) : Option ByteArray := if (a_1.length : Int) = 0 then (some (str_3)) else (h.l0 a_0 a_1 t2 s (w64 ((a_1.length : Int) - 1)))
noncomputable def Qt.b0 (k : Nat) (h : Qt.Hs) (a_0 : Bool) (a_1 : List Int) (t2 s : ByteArray) (i : Int) : Option ByteArray := if 0 ≤ i then (if (0 : Int) ≤ i ∧ i < (a_1.length : Int) then (if (0 : Int) ≤ i ∧ i < (a_1.length : Int) then (if (0 : Int) ≤ rd a_1 i ∧ (rd a_1 i : Int) ≤ w64 ((rd a_1 i) + 1) ∧ w64 ((rd a_1 i) + 1) ≤ (str_4.size : Int) then (if (s.size + (scut str_4 (rd a_1 i) (w64 ((rd a_1 i) + 1))).size : Int) ≤ 9223372036854775807 then (h.l0 a_0 a_1 t2 (s ++ (scut str_4 (rd a_1 i) (w64 ((rd a_1 i) + 1)))) (w64 (i - 1))) else none) else none) else none) else none) else (some (s))
noncomputable def Qt.hs : Nat → Qt.Hs
 | 0 => ⟨fun _ _ _ _ _ => none⟩
 | k + 1 => ⟨fun x0 x1 x2 x3 x4 => Qt.b0 k (Qt.hs k) x0 x1 x2 x3 x4⟩
noncomputable def Qt.f (k : Nat) (a : Qg) : Option ByteArray := (fun h : Qt.Hs => (X2.f k a).bind fun y2 => if y2 < 0 then (Qt.j1 k h a.f_Neg a.f_D str_1 str_2) else (Qt.j1 k h a.f_Neg a.f_D str_1 str_1)) (Qt.hs k)
noncomputable def Qt.Kj1 : List Item := .code (seqR (seqR (seqR Qt.C))) :: []
noncomputable def Qt.Kl0 : List Item := .code (lopB (blkB (seqR (seqL (seqR (seqR (seqR (seqR Qt.C)))))))) :: .inLoop (lopB (blkB (seqR (seqL (seqR (seqR (seqR (seqR Qt.C)))))))) :: .inBlock 0 :: .code (seqR (seqR (seqR (seqR (seqR Qt.C))))) :: []
structure Qt.OK (h : Qt.Hs) : Prop where
 l0 : ∀ {H0 H : Hp} {L : Items} {r : ByteArray} {jk_ : Nat → Value} {a_0 : Bool} {a_1 : List Int} {t2 : ByteArray} {s : ByteArray} {i : Int} {v_a_1 : Value} {b_a : Nat} (_ : H0.le H) (_he : h.l0 a_0 a_1 t2 s i = some r) (_h_a_1 : Ro kI64 H v_a_1 a_1), Wp Tryz.prog 99 35 Qt.Kl0 (upd (upd (upd (upd jk_ 1 (pt b_a)) 2 (.string t2)) 3 (.string s)) 4 (.int .i64 i)) H (bx b_a [.bool a_0, v_a_1] 37 :: L) (Qt.R H0 L r)
theorem Qt.j1_ok {k : Nat} {h : Qt.Hs} (hh : Qt.OK h) {H0 H : Hp} {L : Items} {r : ByteArray} {jk_ : Nat → Value} {a_0 : Bool} {a_1 : List Int} {t2 s : ByteArray} {v_a_1 : Value} {b_a : Nat} (hle : H0.le H) (he : Qt.j1 k h a_0 a_1 t2 s = some r) (h_a_1 : Ro kI64 H v_a_1 a_1) : Wp Tryz.prog 99 35 Qt.Kj1 (upd (upd (upd jk_ 1 (pt b_a)) 2 (.string t2)) 3 (.string s)) H (bx b_a [.bool a_0, v_a_1] 37 :: L) (Qt.R H0 L r) := by
 unfold Qt.j1 at he
 unfold Qt.Kj1
 refine QX <| wR rfl <| w_d rfl (Xi (o' := 1) Tryz.underlying37 rfl sz35 rfl rfl rfl) <| wL v_a_1 ty35 rfl rfl .here rfl rfl <| w_d rfl (Xo Tryz.underlying35 rfl h_a_1.src) <| w_d rfl (YY rfl rfl) <| Qb ?_
 rcases its he with ⟨c7, he⟩ | ⟨c7, he⟩
 ·
  refine QD rfl (dt c7) <| wR rfl <| wA (.string str_3) rfl rfl <| Qb ?_
  obtain rfl := sj he
  refine Ql fn_99 rs_99 (.tmp (v := .string str_3) rfl .nil) <| ⟨⟨[_], rfl⟩, hle, rfl⟩
 ·
  refine QE rfl (df c7) <| QF <| QX <| wR rfl <| w_d rfl (Xi (o' := 1) Tryz.underlying37 rfl sz35 rfl rfl rfl) <| wL v_a_1 ty35 rfl rfl .here rfl rfl <| w_d rfl (Xo Tryz.underlying35 rfl h_a_1.src) <| w_d rfl (YE (c := w64 ((a_1.length : Int) - 1)) rfl rfl rfl) <| wA (.int .i64 (w64 ((a_1.length : Int) - 1))) rfl rfl <| Qb <| Q2 ?_
  refine X5 <| w_sl 1 (pt b_a) rfl <| w_sl 2 (.string t2) rfl <| w_sl 3 (.string s) rfl <| w_sl 4 (.int .i64 (w64 ((a_1.length : Int) - 1))) rfl <| hh.l0 hle he h_a_1
theorem Qt.b0_ok {k : Nat} {h : Qt.Hs} (hh : Qt.OK h) {H0 H : Hp} {L : Items} {r : ByteArray} {jk_ : Nat → Value} {a_0 : Bool} {a_1 : List Int} {t2 s : ByteArray} {i : Int} {v_a_1 : Value} {b_a : Nat} (hle : H0.le H) (he : Qt.b0 k h a_0 a_1 t2 s i = some r) (h_a_1 : Ro kI64 H v_a_1 a_1) : Wp Tryz.prog 99 35 Qt.Kl0 (upd (upd (upd (upd jk_ 1 (pt b_a)) 2 (.string t2)) 3 (.string s)) 4 (.int .i64 i)) H (bx b_a [.bool a_0, v_a_1] 37 :: L) (Qt.R H0 L r) := by
 unfold Qt.b0 at he
 unfold Qt.Kl0
 refine QX <| wR rfl <| wM (.int .i64 i) rfl rfl <| w_d rfl (ZO rfl rfl) <| Qb ?_
 rcases its he with ⟨c8, he⟩ | ⟨c8, he⟩
 ·
  refine QD rfl (dt c8) <| QF <| QX <| Q2 <| rK he fun c9 he => rK he fun c10 he => rK he fun c11 he => XC (p := 13) (tl := [13, 14]) [[], [], [(1, some 21)], [], [(2, some 22), (3, some 23)], [(4, some 24)], [], [(6, some 26)], [], [(7, some 27), (8, some 28)], [(9, some 29)], [(10, some 30)], [(5, some 25), (11, some 31)]] [some 20, some 21, some 22, some 23, some 24, some 25, some 26, some 27, some 28, some 29, some 30, some 31, some 32] (fctF (.is (.string s) :: .is (po b_a 1) :: .is (v_a_1) :: .is (.int .i64 i) :: .is (.pointer (some (pel v_a_1 i 1))) :: .is (.int .i64 (rd a_1 i)) :: .is (po b_a 1) :: .is (v_a_1) :: .is (.int .i64 i) :: .is (.pointer (some (pel v_a_1 i 1))) :: .is (.int .i64 (rd a_1 i)) :: .is (.int .i64 (w64 ((rd a_1 i) + 1))) :: .is (.string (scut str_4 (rd a_1 i) (w64 ((rd a_1 i) + 1)))) :: [])) (fun m_ => bx b_a [.bool a_0, v_a_1] 37 :: L) (fun _ => none) mixed (by kernel_rfl) (by kernel_rfl) rfl (Xq (by kernel_rfl)) ⟨(fun H' m_ hH hm_ hu_ => dn <| s_d (m_ 0) rfl (QT (v := .string s) rfl) (by exact rfl) rfl), (fun H' m_ hH hm_ hu_ => dn <| s_d (m_ 1) rfl (Xi (o' := 1) Tryz.underlying37 rfl sz35 rfl rfl rfl) (by exact rfl) rfl), (by rintro H' m_ hH hm_ hu_ _ rfl; exact dn <| s_d (m_ 2) rfl (QN (v := v_a_1) ty35 rfl .here rfl rfl rfl rfl) (by exact rfl) rfl), (fun H' m_ hH hm_ hu_ => dn <| s_d (m_ 3) rfl (QT (v := .int .i64 i) rfl) (by exact rfl) rfl), (by rintro H' m_ hH hm_ hu_ _ rfl _ rfl; exact dn <| s_d (m_ 4) rfl (XA (sz := 1) Tryz.underlying35 sz3 rfl (h_a_1.mono hH).src rfl c9) (by exact rfl) rfl), (by rintro H' m_ hH hm_ hu_ _ rfl; exact dn <| s_d (m_ 5) rfl (XR ty3 rfl (h_a_1.mono hH).src c9) (by exact rfl) rfl), (fun H' m_ hH hm_ hu_ => dn <| s_d (m_ 6) rfl (Xi (o' := 1) Tryz.underlying37 rfl sz35 rfl rfl rfl) (by exact rfl) rfl), (by rintro H' m_ hH hm_ hu_ _ rfl; exact dn <| s_d (m_ 7) rfl (QN (v := v_a_1) ty35 rfl .here rfl rfl rfl rfl) (by exact rfl) rfl), (fun H' m_ hH hm_ hu_ => dn <| s_d (m_ 8) rfl (QT (v := .int .i64 i) rfl) (by exact rfl) rfl), (by rintro H' m_ hH hm_ hu_ _ rfl _ rfl; exact dn <| s_d (m_ 9) rfl (XA (sz := 1) Tryz.underlying35 sz3 rfl (h_a_1.mono hH).src rfl c10) (by exact rfl) rfl), (by rintro H' m_ hH hm_ hu_ _ rfl; exact dn <| s_d (m_ 10) rfl (XR ty3 rfl (h_a_1.mono hH).src c10) (by exact rfl) rfl), (by rintro H' m_ hH hm_ hu_ _ rfl; exact dn <| s_d (m_ 11) rfl (XQ (c := w64 ((rd a_1 i) + 1)) rfl rfl rfl) (by exact rfl) rfl), (by rintro H' m_ hH hm_ hu_ _ rfl _ rfl; exact dn <| s_d (m_ 12) rfl (UZ Tryz.underlying9 rfl (.inr ⟨_, _, rfl, rfl⟩) (.inr ⟨_, _, rfl, rfl⟩) c11) (by exact rfl) rfl), trivial⟩ ?_
  intro H12 e13
  rintro _ _ rfl _ _ rfl _ _ rfl _ _ rfl _ _ rfl _ _ rfl _ _ rfl _ _ rfl _ _ rfl _ _ rfl _ _ rfl _ _ rfl _ _ rfl
  refine rK he fun c14 he => w_d rfl (Mn rfl rfl c14) <| wA (.string (s ++ (scut str_4 (rd a_1 i) (w64 ((rd a_1 i) + 1))))) rfl rfl <| Qb <| Xw <| QL rfl <| wM (.int .i64 i) rfl rfl <| w_d rfl (YE (c := w64 (i - 1)) rfl rfl rfl) <| wA (.int .i64 (w64 (i - 1))) rfl rfl <| Qb <| XG <| w_sl 1 (pt b_a) rfl ?_
  refine w_sl 2 (.string t2) rfl <| w_sl 3 (.string (s ++ (scut str_4 (rd a_1 i) (w64 ((rd a_1 i) + 1))))) rfl <| w_sl 4 (.int .i64 (w64 (i - 1))) rfl <| hh.l0 (hle.trans e13) he (h_a_1.mono e13)
 ·
  refine QE rfl (df c8) <| X3 rfl <| wR rfl <| wM (.string s) rfl rfl <| wA (.string s) rfl rfl <| Qb ?_
  obtain rfl := sj he
  refine Ql fn_99 rs_99 (.tmp (v := .string s) rfl .nil) <| ⟨⟨[_], rfl⟩, hle, rfl⟩
theorem Qt.ok : ∀ k, Qt.OK (Qt.hs k)
 | 0 => ⟨(by intros; exact nomatch (show none = some _ from by assumption))⟩
 | k + 1 => ⟨Qt.b0_ok (k := k) (Qt.ok k)⟩
theorem Qt.calls (k : Nat) {H : Hp} {L : Items} {a : Qg} {v0_a : Value} {r : ByteArray} (he : Qt.f k a = some r) (h0_a : Ro kI64 H v0_a a.f_D) : Ct Tryz.prog 99 ⟨[(Qa a v0_a)]⟩ H L (fun v H' L' => L = L' ∧ H = H' ∧ v = .string r) := by
 refine Yp (O := Qt.out r) (fun _ _ h => h) ?_
 have hle : H.le H := .refl _
 have hh := Qt.ok k
 unfold Qt.f at he
 refine QV (args := [_]) fn_99 rfl nt_99 rfl <| wR rfl <| wB (Qa a v0_a) rfl rfl rfl <| fun b1 => wA (.string str_1) rfl rfl <| wQ rfl <| wA (.string str_1) rfl rfl <| wE <| QX ?_
 refine QL rfl <| wL (Qa a v0_a) ty37 rfl rfl .here rfl rfl <| bK he fun y2 hy3 he => w_d rfl (Xx (Qm co62 (vs := [(Qa a v0_a)]) rfl (X2.calls k (a := a) hy3 h0_a))) <| w_d rfl (XW rfl rfl) <| Qb ?_
 rcases its he with ⟨c6, he⟩ | ⟨c6, he⟩
 ·
  refine QD rfl (dt c6) <| QL rfl <| wA (.string str_2) rfl rfl <| Qb <| w_sl 1 (pt b1) rfl <| w_sl 2 (.string str_1) rfl <| w_sl 3 (.string str_2) rfl <| Qt.j1_ok (k := k) hh hle he h0_a
 ·
  refine QE rfl (df c6) <| QF <| w_sl 1 (pt b1) rfl <| w_sl 2 (.string str_1) rfl <| w_sl 3 (.string str_1) rfl <| Qt.j1_ok (k := k) hh hle he h0_a
noncomputable def Xl.C : Code := (Tryz.f147.body).getD .skip
def Xl.out (r : Bool) (H : Hp) (v : Value) : Prop := v = .bool r
abbrev Xl.R (H0 : Hp) (L : Items) (r : Bool) := fR H0 L (Xl.out r)
structure Xl.Hs where
 l0 : Bool → (List Int) → Int → Int → Option Bool
noncomputable def Xl.b0 (k : Nat) (h : Xl.Hs) (t2 : Bool) (t24 : List Int) (t25 t26 : Int) : Option Bool := if t26 < t25 then (if (0 : Int) ≤ t26 ∧ t26 < (t24.length : Int) then (if ((decide ((rd t24 t26) < 48)) || (decide (57 < (rd t24 t26)))) = true then (some (false)) else (h.l0 t2 t24 t25 (w64 (t26 + 1)))) else none) else (some (true))
noncomputable def Xl.hs : Nat → Xl.Hs
 | 0 => ⟨fun _ _ _ _ => none⟩
 | k + 1 => ⟨fun x0 x1 x2 x3 => Xl.b0 k (Xl.hs k) x0 x1 x2 x3⟩
noncomputable def Xl.f (k : Nat) (s : ByteArray) : Option Bool := (fun h : Xl.Hs => if (!((decide ((s.size : Int) = 0)) || (decide (1300 < (s.size : Int))))) = true → (0 : Int) ≤ 0 ∧ 0 < (s.size : Int) then (if (((decide ((s.size : Int) = 0)) || (decide (1300 < (s.size : Int)))) || ((decide ((bt s 0) = 48)) && (decide (1 < (s.size : Int))))) = true then (some (false)) else (h.l0 false (bytesOf s) ((bytesOf s).length : Int) 0)) else none) (Xl.hs k)
noncomputable def Xl.Kl0 : List Item := .code (lopB (blkB (seqR (seqL (seqR (seqR Xl.C)))))) :: .inLoop (lopB (blkB (seqR (seqL (seqR (seqR Xl.C)))))) :: .inBlock 0 :: .code (seqR (seqR (seqR Xl.C))) :: []
structure Xl.OK (h : Xl.Hs) : Prop where
 l0 : ∀ {H0 H : Hp} {L : Items} {r : Bool} {jk_ : Nat → Value} {t2 : Bool} {t24 : List Int} {t25 : Int} {t26 : Int} {v_t24 : Value} (_ : H0.le H) (_he : h.l0 t2 t24 t25 t26 = some r) (_h_t24 : Ro kU8 H v_t24 t24), Wp Tryz.prog 147 37 Xl.Kl0 (upd (upd (upd (upd jk_ 2 (.bool t2)) 24 (v_t24)) 25 (.int .i64 t25)) 26 (.int .i64 t26)) H (L) (Xl.R H0 L r)
theorem Xl.b0_ok {k : Nat} {h : Xl.Hs} (hh : Xl.OK h) {H0 H : Hp} {L : Items} {r : Bool} {jk_ : Nat → Value} {t2 : Bool} {t24 : List Int} {t25 t26 : Int} {v_t24 : Value} (hle : H0.le H) (he : Xl.b0 k h t2 t24 t25 t26 = some r) (h_t24 : Ro kU8 H v_t24 t24) : Wp Tryz.prog 147 37 Xl.Kl0 (upd (upd (upd (upd jk_ 2 (.bool t2)) 24 (v_t24)) 25 (.int .i64 t25)) 26 (.int .i64 t26)) H (L) (Xl.R H0 L r) := by
 unfold Xl.b0 at he
 unfold Xl.Kl0
 refine wR rfl <| w_d rfl (XW rfl rfl) <| wE ?_
 rcases its he with ⟨c18, he⟩ | ⟨c18, he⟩
 ·
  refine QD rfl (dt c18) <| QF <| QX <| Q2 <| wR rfl <| rK he fun c19 he => w_d rfl (XA (sz := 1) Tryz.underlying52 sz5 rfl h_t24.src rfl c19) <| w_d rfl (XR ty5 rfl h_t24.src c19) <| wA (.int .u8 (rd t24 t26)) rfl rfl <| wE ?_
  refine QL rfl <| wM (.int .u8 (rd t24 t26)) rfl rfl <| w_d rfl (XW rfl rfl) <| wM (.bool (decide ((rd t24 t26) < 48))) rfl rfl <| w_g (g := !(decide ((rd t24 t26) < 48))) rfl rfl rfl wn_f (fun g20 => QT (v := .int .u8 (rd t24 t26)) rfl) <| w_g (g := !(decide ((rd t24 t26) < 48))) rfl rfl rfl wn_f (fun g21 => YV (cvt g21) rfl) <| w_d rfl (d_or' (b := (decide ((rd t24 t26) < 48))) (p := (decide (57 < (rd t24 t26)))) rfl rfl rfl) <| Qb ?_
  rcases its he with ⟨c22, he⟩ | ⟨c22, he⟩
  ·
   refine QD rfl c22 <| wR rfl <| wA (.bool false) rfl rfl <| Qb ?_
   obtain rfl := sj he
   refine Ql fn_147 rs_147 (.tmp (v := .bool false) rfl .nil) <| ⟨⟨[], rfl⟩, hle, rfl⟩
  ·
   refine QE rfl (Bool.eq_false_iff.2 c22) <| QF <| Xw <| QL rfl <| w_d rfl (XQ (c := w64 (t26 + 1)) rfl rfl rfl) <| wM (.int .i64 (w64 (t26 + 1))) rfl rfl <| Qb <| XG <| w_sl 2 (.bool t2) rfl <| w_sl 24 (v_t24) rfl <| w_sl 25 (.int .i64 t25) rfl <| w_sl 26 (.int .i64 (w64 (t26 + 1))) rfl <| hh.l0 hle he h_t24
 ·
  refine QE rfl (df c18) <| X3 rfl <| wR rfl <| wA (.bool true) rfl rfl <| Qb ?_
  obtain rfl := sj he
  refine Ql fn_147 rs_147 (.tmp (v := .bool true) rfl .nil) <| ⟨⟨[], rfl⟩, hle, rfl⟩
theorem Xl.ok : ∀ k, Xl.OK (Xl.hs k)
 | 0 => ⟨(by intros; exact nomatch (show none = some _ from by assumption))⟩
 | k + 1 => ⟨Xl.b0_ok (k := k) (Xl.ok k)⟩
theorem Xl.calls (k : Nat) {H : Hp} {L : Items} {s : ByteArray} {r : Bool} (he : Xl.f k s = some r) : Ct Tryz.prog 147 ⟨[.string s]⟩ H L (fun v H' L' => L = L' ∧ H = H' ∧ v = .bool r) := by
 refine Yp (O := Xl.out r) (fun _ _ h => h) ?_
 have hle : H.le H := .refl _
 have hh := Xl.ok k
 unfold Xl.f at he
 refine QV (args := [_]) fn_147 rfl nt_147 rfl <| wR rfl <| wA (.bool false) rfl rfl <| wE <| wR rfl <| wM (.string s) rfl rfl <| w_d rfl (Mz Tryz.underlying9 rfl) <| w_d rfl (YY rfl rfl) <| wM (.bool (decide ((s.size : Int) = 0))) rfl rfl ?_
 refine w_g (g := !(decide ((s.size : Int) = 0))) rfl rfl rfl wn_f (fun g1 => QT (v := .string s) rfl) <| w_g (g := !(decide ((s.size : Int) = 0))) rfl rfl rfl wn_f (fun g2 => Mz Tryz.underlying9 (cvt g2)) <| w_g (g := !(decide ((s.size : Int) = 0))) rfl rfl rfl wn_f (fun g3 => YV (cvt g3) rfl) <| w_d rfl (d_or' (b := (decide ((s.size : Int) = 0))) (p := (decide (1300 < (s.size : Int)))) rfl rfl rfl) <| wM (.bool ((decide ((s.size : Int) = 0)) || (decide (1300 < (s.size : Int))))) rfl rfl <| w_g (g := !((decide ((s.size : Int) = 0)) || (decide (1300 < (s.size : Int))))) rfl rfl rfl wn_f (fun g4 => QT (v := .string s) rfl) <| rK he fun c6 he => w_g (g := !((decide ((s.size : Int) = 0)) || (decide (1300 < (s.size : Int))))) rfl rfl rfl wn_f (fun g5 => d_bt Tryz.underlying9 (cvt g5) rfl (c6 g5)) <| w_g (g := !((decide ((s.size : Int) = 0)) || (decide (1300 < (s.size : Int))))) rfl rfl rfl wn_f (fun g7 => YY (cvt g7) rfl) <| w_g (g := !((decide ((s.size : Int) = 0)) || (decide (1300 < (s.size : Int))))) rfl rfl rfl wn_f (fun g8 => QT (v := .bool (decide ((bt s 0) = 48))) (cvt g8)) <| w_g (g := (!((decide ((s.size : Int) = 0)) || (decide (1300 < (s.size : Int))))) && (decide ((bt s 0) = 48))) rfl rfl rfl Mv (fun g9 => QT (v := .string s) rfl) <| w_g (g := (!((decide ((s.size : Int) = 0)) || (decide (1300 < (s.size : Int))))) && (decide ((bt s 0) = 48))) rfl rfl rfl Mv (fun g10 => Mz Tryz.underlying9 (cvt g10)) ?_
 refine w_g (g := (!((decide ((s.size : Int) = 0)) || (decide (1300 < (s.size : Int))))) && (decide ((bt s 0) = 48))) rfl rfl rfl Mv (fun g11 => YV (cvt g11) rfl) <| w_g (g := !((decide ((s.size : Int) = 0)) || (decide (1300 < (s.size : Int))))) rfl rfl rfl wn_f (fun g12 => d_and' (b := (decide ((bt s 0) = 48))) (p := (decide (1 < (s.size : Int)))) (cvt g12) (cva g12) rfl) <| w_d rfl (d_or' (b := ((decide ((s.size : Int) = 0)) || (decide (1300 < (s.size : Int))))) (p := ((decide ((bt s 0) = 48)) && (decide (1 < (s.size : Int))))) rfl rfl rfl) <| Qb ?_
 rcases its he with ⟨c13, he⟩ | ⟨c13, he⟩
 ·
  refine QD rfl c13 <| wR rfl <| wA (.bool false) rfl rfl <| Qb ?_
  obtain rfl := sj he
  refine Ql fn_147 rs_147 (.tmp (v := .bool false) rfl .nil) <| ⟨⟨[], rfl⟩, hle, rfl⟩
 ·
  refine QE rfl (Bool.eq_false_iff.2 c13) <| QF <| QX <| wR rfl <| wM (.string s) rfl rfl <| w_a rfl (OM Tryz.underlying9 Tryz.underlying52 Tryz.underlying5 rfl) ?_
  rintro v14 H15 _ ⟨rfl, e16, h17⟩
  refine w_d rfl (Xo Tryz.underlying52 rfl h17.src) <| wM (.int .i64 0) rfl rfl <| Qb <| Q2 <| X5 <| w_sl 2 (.bool false) rfl <| w_sl 24 (v14) rfl <| w_sl 25 (.int .i64 ((bytesOf s).length : Int)) rfl <| w_sl 26 (.int .i64 0) rfl <| hh.l0 (hle.trans e16) he h17
noncomputable def Q3.C : Code := (Tryz.f134.body).getD .skip
def Q3.out (r : Qv × (Option Int)) (H : Hp) (v : Value) : Prop := ∃ v0, v = .tuple ⟨[(Qd r.1 v0), errV 104 r.2]⟩ ∧ Ro kU32 H v0 r.1.f_w
abbrev Q3.R (H0 : Hp) (L : Items) (r : Qv × (Option Int)) := fR H0 L (Q3.out r)
structure Q3.Hs where
 l0 : Bool → (List Int) → (List Int) → Int → Int → Option (Qv × (Option Int))
noncomputable def Q3.j1 (k : Nat) (h : Q3.Hs) (t : ByteArray) (neg : Bool) : Option (Qv × (Option Int)) := (Xl.f k t).bind fun y8 => if ((!y8) || (neg && (decide (t = str_3)))) = true then (some (⟨false, []⟩, some 3)) else (h.l0 neg [] (bytesOf t) ((bytesOf t).length : Int) 0)
noncomputable def Q3.b0 (k : Nat) (h : Q3.Hs) (neg : Bool) (w t34 : List Int) (t35 t36 : Int) : Option (Qv × (Option Int)) := if t36 < t35 then (if (0 : Int) ≤ t36 ∧ t36 < (t34.length : Int) then ((QC.f k w [10]).bind fun y27 => (QU.f k [(((rd t34 t36) - 48) % 256) % 4294967296]).bind fun y39 => (Qy.f k y27 y39).bind fun y45 => (QU.f k y45).bind fun y51 => h.l0 neg y51 t34 t35 (w64 (t36 + 1))) else none) else ((XI.f k neg w).bind fun y57 => some (y57.1, y57.2))
noncomputable def Q3.hs : Nat → Q3.Hs
 | 0 => ⟨fun _ _ _ _ _ => none⟩
 | k + 1 => ⟨fun x0 x1 x2 x3 x4 => Q3.b0 k (Q3.hs k) x0 x1 x2 x3 x4⟩
noncomputable def Q3.f (k : Nat) (s : ByteArray) : Option (Qv × (Option Int)) := (fun h : Q3.Hs => if (decide (1 < (s.size : Int))) = true → (0 : Int) ≤ 0 ∧ 0 < (s.size : Int) then (if ((decide (1 < (s.size : Int))) && (decide ((bt s 0) = 45))) = true then (if (0 : Int) ≤ 1 ∧ (1 : Int) ≤ (s.size : Int) ∧ (s.size : Int) ≤ (s.size : Int) then (Q3.j1 k h (scut s 1 (s.size : Int)) ((decide (1 < (s.size : Int))) && (decide ((bt s 0) = 45)))) else none) else (Q3.j1 k h s ((decide (1 < (s.size : Int))) && (decide ((bt s 0) = 45))))) else none) (Q3.hs k)
noncomputable def Q3.Kj1 : List Item := .code (seqR (seqR (seqR (seqR Q3.C)))) :: []
noncomputable def Q3.Kl0 : List Item := .code (lopB (blkB (seqR (seqL (seqR (seqR (seqR (seqR (seqR (seqR Q3.C)))))))))) :: .inLoop (lopB (blkB (seqR (seqL (seqR (seqR (seqR (seqR (seqR (seqR Q3.C)))))))))) :: .inBlock 0 :: .code (seqR (seqR (seqR (seqR (seqR (seqR (seqR Q3.C))))))) :: []
structure Q3.OK (h : Q3.Hs) : Prop where
 l0 : ∀ {H0 H : Hp} {L : Items} {r : Qv × (Option Int)} {jk_ : Nat → Value} {neg : Bool} {w : List Int} {t34 : List Int} {t35 : Int} {t36 : Int} {v_w : Value} {v_t34 : Value} {b_t2 : Nat} (_ : H0.le H) (_he : h.l0 neg w t34 t35 t36 = some r) (_h_w : Ro kU32 H v_w w) (_h_t34 : Ro kU8 H v_t34 t34), Wp Tryz.prog 134 56 Q3.Kl0 (upd (upd (upd (upd (upd (upd (upd jk_ 2 (pt b_t2)) 3 (errV 104 none)) 5 (.bool neg)) 6 (v_w)) 34 (v_t34)) 35 (.int .i64 t35)) 36 (.int .i64 t36)) H (bx b_t2 [.bool false, .slice none 0 0] 24 :: L) (Q3.R H0 L r)
theorem Q3.j1_ok {k : Nat} {h : Q3.Hs} (hh : Q3.OK h) {H0 H : Hp} {L : Items} {r : Qv × (Option Int)} {jk_ : Nat → Value} {t : ByteArray} {neg : Bool} {b_t2 : Nat} (hle : H0.le H) (he : Q3.j1 k h t neg = some r) : Wp Tryz.prog 134 56 Q3.Kj1 (upd (upd (upd (upd jk_ 2 (pt b_t2)) 3 (errV 104 none)) 4 (.string t)) 5 (.bool neg)) H (bx b_t2 [.bool false, .slice none 0 0] 24 :: L) (Q3.R H0 L r) := by
 unfold Q3.j1 at he
 unfold Q3.Kj1
 refine QX <| wR rfl <| wM (.string t) rfl rfl <| bK he fun y8 hy9 he => w_d rfl (Xx (Qm co147 (vs := [.string t]) rfl (Xl.calls k hy9))) <| w_d rfl (Zs (b := y8) rfl) <| wM (.bool (!y8)) rfl rfl <| w_g (g := !(!y8)) rfl rfl rfl wn_f (fun g12 => QT (v := .bool neg) rfl) <| w_g (g := !(!y8)) rfl rfl rfl wn_f (fun g13 => QT (v := .bool neg) (cvt g13)) <| w_g (g := (!(!y8)) && neg) rfl rfl rfl Mv (fun g14 => QT (v := .string t) rfl) <| w_g (g := (!(!y8)) && neg) rfl rfl rfl Mv (fun g15 => Ng (cvt g15) rfl) ?_
 refine w_g (g := !(!y8)) rfl rfl rfl wn_f (fun g16 => d_and' (b := neg) (p := (decide (t = str_3))) (cvt g16) (cva g16) rfl) <| w_d rfl (d_or' (b := (!y8)) (p := (neg && (decide (t = str_3)))) rfl rfl rfl) <| Qb ?_
 rcases its he with ⟨c17, he⟩ | ⟨c17, he⟩
 ·
  refine QD rfl c17 <| wR rfl <| w_d rfl (XE (cs' := [.bool false, .slice none 0 0]) Tryz.underlying24 zr24 rfl (by kernel_rfl) (parts := []) rfl .nil) <| w_d rfl (Zf (v := .int .i64 3) Tryz.underlying104 rfl rfl) <| wS (.agg ⟨[.bool false, .slice none 0 0]⟩) sz24 rfl rfl rfl rfl rfl (oc rfl (oc rfl oz)) .here u2 <| wA (errV 104 (some 3)) rfl rfl <| Qb ?_
  obtain rfl := sj he
  refine Ql fn_134 rs_134 (.box (v := .agg ⟨[.bool false, .slice none 0 0]⟩) rfl ty24 rfl rfl .here rfl (.tmp (v := errV 104 (some 3)) rfl .nil)) <| ⟨⟨[_], rfl⟩, hle, ⟨.slice none 0 0, rfl, (Xj _ _)⟩⟩
 ·
  refine QE rfl (Bool.eq_false_iff.2 c17) <| QF <| wR rfl <| wA (.slice none 0 0) rfl rfl <| wE <| wR rfl <| wM (.string t) rfl rfl <| w_a rfl (OM Tryz.underlying9 Tryz.underlying52 Tryz.underlying5 rfl) ?_
  rintro v18 H19 _ ⟨rfl, e20, h21⟩
  refine w_d rfl (Xo Tryz.underlying52 rfl h21.src) <| wM (.int .i64 0) rfl rfl <| Qb <| Q2 <| X5 <| w_sl 2 (pt b_t2) rfl <| w_sl 3 (errV 104 none) rfl <| w_sl 5 (.bool neg) rfl <| w_sl 6 (.slice none 0 0) rfl <| w_sl 34 (v18) rfl <| w_sl 35 (.int .i64 ((bytesOf t).length : Int)) rfl <| w_sl 36 (.int .i64 0) rfl <| hh.l0 (hle.trans e20) he (Xj _ _) h21
theorem Q3.b0_ok {k : Nat} {h : Q3.Hs} (hh : Q3.OK h) {H0 H : Hp} {L : Items} {r : Qv × (Option Int)} {jk_ : Nat → Value} {neg : Bool} {w t34 : List Int} {t35 t36 : Int} {v_w v_t34 : Value} {b_t2 : Nat} (hle : H0.le H) (he : Q3.b0 k h neg w t34 t35 t36 = some r) (h_w : Ro kU32 H v_w w) (h_t34 : Ro kU8 H v_t34 t34) : Wp Tryz.prog 134 56 Q3.Kl0 (upd (upd (upd (upd (upd (upd (upd jk_ 2 (pt b_t2)) 3 (errV 104 none)) 5 (.bool neg)) 6 (v_w)) 34 (v_t34)) 35 (.int .i64 t35)) 36 (.int .i64 t36)) H (bx b_t2 [.bool false, .slice none 0 0] 24 :: L) (Q3.R H0 L r) := by
 unfold Q3.b0 at he
 unfold Q3.Kl0
 refine wR rfl <| w_d rfl (XW rfl rfl) <| wE ?_
 rcases its he with ⟨c22, he⟩ | ⟨c22, he⟩
 ·
  refine QD rfl (dt c22) <| QF <| QX <| Q2 <| wR rfl <| rK he fun c23 he => w_d rfl (XA (sz := 1) Tryz.underlying52 sz5 rfl h_t34.src rfl c23) <| w_d rfl (XR ty5 rfl h_t34.src c23) <| wA (.int .u8 (rd t34 t36)) rfl rfl <| Qb <| QL rfl ?_
  refine wM v_w rfl rfl <| w_a rfl (o_buildSlice' (kd := kU32) (css := [[.int .u32 10]]) (xs := [10]) (parts := [(0, .int .u32 10)]) Tryz.underlying22 ti167 rfl ⟨_, _, rfl, rfl, rfl⟩ ⟨rfl, trivial⟩ rfl (by decide)) ?_
  rintro v24 _ _ ⟨i25, rfl, rfl, h26⟩
  refine bK he fun y27 hy28 he => w_a rfl (Qm co145 (vs := [v_w, v24]) rfl (QC.calls k hy28 h_w.src (h26.src .here))) ?_
  rintro v31 H29 _ ⟨rfl, e30, h32⟩
  refine wM (.int .u8 (rd t34 t36)) rfl rfl <| w_d rfl (YE (c := ((rd t34 t36) - 48) % 256) rfl rfl rfl) <| w_d rfl (Yd (c := (((rd t34 t36) - 48) % 256) % 4294967296) Tryz.underlying5 Tryz.underlying167 rfl rfl) <| w_a rfl (o_buildSlice' (kd := kU32) (css := [[.int .u32 ((((rd t34 t36) - 48) % 256) % 4294967296)]]) (xs := [(((rd t34 t36) - 48) % 256) % 4294967296]) (parts := [(0, .int .u32 ((((rd t34 t36) - 48) % 256) % 4294967296))]) Tryz.underlying22 ti167 rfl ⟨_, _, rfl, rfl, rfl⟩ ⟨rfl, trivial⟩ rfl (by decide)) ?_
  rintro v33 _ _ ⟨i34, rfl, rfl, h35⟩
  refine Yx h35 .here ?_
  intro H36 e37 h38
  refine bK he fun y39 hy40 he => w_a rfl (Qm co113 (vs := [v33]) rfl (QU.calls k hy40 h38)) ?_
  rintro v43 H41 _ ⟨rfl, e42, h44⟩
  refine bK he fun y45 hy46 he => w_a rfl (Qm co144 (vs := [v31, v43]) rfl (Qy.calls k hy46 ((h32.mono (e37.trans e42)).src) h44.src)) ?_
  rintro v49 H47 _ ⟨rfl, e48, h50⟩
  refine bK he fun y51 hy52 he => w_a rfl (Qm co113 (vs := [v49]) rfl (QU.calls k hy52 h50)) ?_
  rintro v55 H53 _ ⟨rfl, e54, h56⟩
  refine wA v55 rfl rfl <| Qb <| Xw <| QL rfl <| w_d rfl (XQ (c := w64 (t36 + 1)) rfl rfl rfl) <| wM (.int .i64 (w64 (t36 + 1))) rfl rfl <| Qb <| XG <| Yu .h1 <| Yu .here <| w_sl 2 (pt b_t2) rfl <| w_sl 3 (errV 104 none) rfl ?_
  refine w_sl 5 (.bool neg) rfl <| w_sl 6 (v55) rfl <| w_sl 34 (v_t34) rfl <| w_sl 35 (.int .i64 t35) rfl <| w_sl 36 (.int .i64 (w64 (t36 + 1))) rfl <| hh.l0 (hle.trans ((((e30.trans e37).trans e42).trans e48).trans e54)) he h56 (h_t34.mono ((((e30.trans e37).trans e42).trans e48).trans e54))
 ·
  refine QE rfl (df c22) <| X3 rfl <| wR rfl <| wM (.bool neg) rfl rfl <| wM v_w rfl rfl <| bK he fun y57 hy58 he => w_a rfl (Qm co115 (vs := [.bool neg, v_w]) rfl (XI.calls k hy58 h_w)) ?_
  rintro _ H59 _ ⟨rfl, e60, v61, rfl, h62⟩
  refine w_d rfl (Q5 rfl rfl) <| w_d rfl (Q5 rfl rfl) <| wS (Qd y57.1 v61) sz24 rfl rfl rfl rfl rfl (XF h62) .here u2 <| wA (errV 104 y57.2) rfl rfl <| Qb ?_
  obtain rfl := sj he
  refine Ql fn_134 rs_134 (.box (v := (Qd y57.1 v61)) rfl ty24 rfl rfl .here rfl (.tmp (v := errV 104 y57.2) rfl .nil)) <| ⟨⟨[_], rfl⟩, hle.trans e60, ⟨v61, rfl, h62⟩⟩
theorem Q3.ok : ∀ k, Q3.OK (Q3.hs k)
 | 0 => ⟨(by intros; exact nomatch (show none = some _ from by assumption))⟩
 | k + 1 => ⟨Q3.b0_ok (k := k) (Q3.ok k)⟩
theorem Q3.calls (k : Nat) {H : Hp} {L : Items} {s : ByteArray} {r : Qv × (Option Int)} (he : Q3.f k s = some r) : Ct Tryz.prog 134 ⟨[.string s]⟩ H L (cR H L (Q3.out r)) := by
 refine XN (O := Q3.out r) ?_
 have hle : H.le H := .refl _
 have hh := Q3.ok k
 unfold Q3.f at he
 refine QV (args := [_]) fn_134 rfl nt_134 rfl <| wR rfl <| wN zr24 rfl rfl fun b1 => wA (errV 104 none) rfl rfl <| wQ rfl <| wM (.string s) rfl rfl <| wA (.string s) rfl rfl <| wE ?_
 refine QL rfl <| wM (.string s) rfl rfl <| w_d rfl (Mz Tryz.underlying9 rfl) <| w_d rfl (YV rfl rfl) <| wM (.bool (decide (1 < (s.size : Int)))) rfl rfl <| w_g (g := decide (1 < (s.size : Int))) rfl rfl rfl wn_t (fun g2 => QT (v := .string s) rfl) <| rK he fun c4 he => w_g (g := decide (1 < (s.size : Int))) rfl rfl rfl wn_t (fun g3 => d_bt Tryz.underlying9 (cvt g3) rfl (c4 g3)) <| w_g (g := decide (1 < (s.size : Int))) rfl rfl rfl wn_t (fun g5 => YY (cvt g5) rfl) <| w_d rfl (d_and' (b := (decide (1 < (s.size : Int)))) (p := (decide ((bt s 0) = 45))) rfl rfl rfl) <| wA (.bool ((decide (1 < (s.size : Int))) && (decide ((bt s 0) = 45)))) rfl rfl <| Qb ?_
 refine QX <| wR rfl <| wM (.bool ((decide (1 < (s.size : Int))) && (decide ((bt s 0) = 45)))) rfl rfl <| Qb ?_
 rcases its he with ⟨c6, he⟩ | ⟨c6, he⟩
 ·
  refine QD rfl c6 <| QL rfl <| wM (.string s) rfl rfl <| rK he fun c7 he => w_d rfl (UZ Tryz.underlying9 rfl (.inr ⟨_, _, rfl, rfl⟩) (.inl ⟨rfl, rfl⟩) c7) <| wA (.string (scut s 1 (s.size : Int))) rfl rfl <| Qb <| w_sl 2 (pt b1) rfl <| w_sl 3 (errV 104 none) rfl <| w_sl 4 (.string (scut s 1 (s.size : Int))) rfl <| w_sl 5 (.bool ((decide (1 < (s.size : Int))) && (decide ((bt s 0) = 45)))) rfl <| Q3.j1_ok (k := k) hh hle he
 ·
  refine QE rfl (Bool.eq_false_iff.2 c6) <| QF <| w_sl 2 (pt b1) rfl <| w_sl 3 (errV 104 none) rfl <| w_sl 4 (.string s) rfl <| w_sl 5 (.bool ((decide (1 < (s.size : Int))) && (decide ((bt s 0) = 45)))) rfl <| Q3.j1_ok (k := k) hh hle he
noncomputable def XL.C : Code := (Tryz.f97.body).getD .skip
def XL.out (r : Qv) (H : Hp) (v : Value) : Prop := ∃ v0, v = (Qd r v0) ∧ Ro kU32 H v0 r.f_w
theorem XL.out_mono (r : Qv) {H H' : Hp} {v : Value} (hle : H.le H') (h : XL.out r H v) : XL.out r H' v := by
 obtain ⟨v0, rfl, h0⟩ := h; exact ⟨v0, rfl, h0.mono hle⟩
noncomputable def XL.f (k : Nat) (a : Qg) : Option Qv := (Qt.f k a).bind fun y3 => (Q3.f k y3).bind fun y7 => some (y7.1)
theorem XL.calls (k : Nat) {H : Hp} {L : Items} {a : Qg} {v0_a : Value} {r : Qv} (he : XL.f k a = some r) (h0_a : Ro kI64 H v0_a a.f_D) : Ct Tryz.prog 97 ⟨[(Qa a v0_a)]⟩ H L (cR H L (XL.out r)) := by
 refine XN (O := XL.out r) ?_
 have hle : H.le H := .refl _
 unfold XL.f at he
 refine QV (args := [_]) fn_97 rfl nt_97 rfl <| wR rfl <| wB (Qa a v0_a) rfl rfl rfl <| fun b1 => wN zr24 rfl rfl fun b2 => wQ rfl <| wL (Qa a v0_a) ty37 rfl rfl .h1 rfl rfl <| bK he fun y3 hy4 he => w_d rfl (Xx (Qm co99 (vs := [(Qa a v0_a)]) rfl (Qt.calls k (a := a) hy4 h0_a))) <| bK he fun y7 hy8 he => ?_
 refine w_a rfl (Qm co134 (vs := [.string y3]) rfl (Q3.calls k hy8)) ?_
 rintro _ H9 _ ⟨rfl, e10, v11, rfl, h12⟩
 refine wM (.tuple ⟨[(Qd y7.1 v11), errV 104 y7.2]⟩) rfl rfl <| w_d rfl (Q5 rfl rfl) <| w_d rfl (Q5 rfl rfl) <| wN zr24 rfl rfl fun b13 => wS (Qd y7.1 v11) sz24 rfl rfl rfl rfl rfl (XF h12) .here u2 <| wA (errV 104 y7.2) rfl rfl <| wQ rfl <| wL (Qd y7.1 v11) ty24 rfl rfl .here rfl rfl <| wS (Qd y7.1 v11) sz24 rfl rfl rfl rfl rfl (XF h12) .h1 u2 <| Qb ?_
 obtain rfl := sj he
 refine Ql fn_97 rs_97 (.box (v := (Qd y7.1 v11)) rfl ty24 rfl rfl .h1 rfl .nil) <| ⟨⟨[_, _, _], rfl⟩, hle.trans e10, ⟨v11, rfl, h12⟩⟩
noncomputable def XM.C : Code := (Tryz.f42.body).getD .skip
def XM.out (r : Qf) (H : Hp) (v : Value) : Prop := ∃ v0 v1, v = (Qc r v0 v1) ∧ Ro kU32 H v0 r.f_n.f_w ∧ Ro kU32 H v1 r.f_d.f_w
theorem XM.out_mono (r : Qf) {H H' : Hp} {v : Value} (hle : H.le H') (h : XM.out r H v) : XM.out r H' v := by
 obtain ⟨v0, v1, rfl, h0, h1⟩ := h; exact ⟨v0, v1, rfl, h0.mono hle, h1.mono hle⟩
noncomputable def XM.f (k : Nat) (a : Qh) : Option Qf := (XL.f k a.f_N).bind fun y3 => (XL.f k a.f_D).bind fun y9 => (XD.f k y3 y9).bind fun y15 => some (y15.1)
theorem XM.calls (k : Nat) {H : Hp} {L : Items} {a : Qh} {v0_a v1_a : Value} {r : Qf} (he : XM.f k a = some r) (h0_a : Ro kI64 H v0_a a.f_N.f_D) (h1_a : Ro kI64 H v1_a a.f_D.f_D) : Ct Tryz.prog 42 ⟨[(Qn a v0_a v1_a)]⟩ H L (cR H L (XM.out r)) := by
 refine XN (O := XM.out r) ?_
 have hle : H.le H := .refl _
 unfold XM.f at he
 refine QV (args := [_]) fn_42 rfl nt_42 rfl <| wR rfl <| wB (Qn a v0_a v1_a) rfl rfl rfl <| fun b1 => wN zr26 rfl rfl fun b2 => wE <| bK he fun y3 hy4 he => bK he fun y9 hy10 he => bK he fun y15 hy16 he => ?_
 refine YG (?_)
 refine XC (p := 12) (tl := [12]) [[], [(0, some 6)], [(1, some 7)], [], [(3, some 9)], [(4, some 10)], [(2, some 8), (5, some 11)], [(6, some 12)], [(7, some 5)], [(7, some 5)], [], [(8, some 13), (10, some 3)]] [some 6, some 7, some 8, some 9, some 10, some 11, some 12, some 5, some 13, some 14, some 3, none] (fctF (.is (pt b1) :: .is (Qa a.f_N v0_a) :: .of (XL.out y3) (XL.out_mono _) :: .is (po b1 2) :: .is (Qa a.f_D v1_a) :: .of (XL.out y9) (XL.out_mono _) :: .of (XD.out y15) (XD.out_mono _) :: .of (fun H v => ∃ v23 v25, v = .tuple ⟨[(Qc y15.1 v23 v25), errV 104 y15.2]⟩ ∧ Ro kU32 H v23 y15.1.f_n.f_w ∧ Ro kU32 H v25 y15.1.f_d.f_w) (by rintro _ _ _ hle ⟨v23, v25, rfl, h24, h26⟩; exact ⟨v23, v25, rfl, h24.mono hle, h26.mono hle⟩) :: .of (fun H v => ∃ v27 v29, v = (Qc y15.1 v27 v29) ∧ Ro kU32 H v27 y15.1.f_n.f_w ∧ Ro kU32 H v29 y15.1.f_d.f_w) (by rintro _ _ _ hle ⟨v27, v29, rfl, h28, h30⟩; exact ⟨v27, v29, rfl, h28.mono hle, h30.mono hle⟩) :: .is (errV 104 y15.2) :: .box 26 z0c :: .st 10 (fun H bq_ itq_ => ∃ v32 v34, itq_ = bx bq_ (Xa y15.1 v32 v34) 26 ∧ Ro kU32 H v32 y15.1.f_n.f_w ∧ Ro kU32 H v34 y15.1.f_d.f_w) (by rintro _ _ _ _ hle ⟨v32, v34, rfl, h33, h35⟩; exact ⟨v32, v34, rfl, h33.mono hle, h35.mono hle⟩) :: [])) (fun m_ => pk (m_ 11) (m_ 10) :: bx b2 z0c 26 :: bx b1 (XZ a v0_a v1_a) 40 :: L) (fun _ => none) mixed (by kernel_rfl) (by kernel_rfl) rfl (Xq (by kernel_rfl)) ⟨(fun H' m_ hH hm_ hu_ => dn <| s_d (m_ 0) rfl (Xi (o' := 0) Tryz.underlying40 rfl sz37 rfl rfl rfl) (by exact rfl) rfl), (by rintro H' m_ hH hm_ hu_ _ rfl; exact dn <| s_d (m_ 1) rfl (QN (v := (Qa a.f_N v0_a)) ty37 rfl .h2 rfl rfl rfl rfl) (by exact rfl) rfl), (by rintro H' m_ hH hm_ hu_ _ rfl; exact dn <| s_k (m_ 2) rfl (Qm co97 (vs := [(Qa a.f_N v0_a)]) rfl (XL.calls k (a := a.f_N) hy4 (h0_a.mono hH))) rfl (by rintro v_ H_ _ ⟨rfl, e_, h_⟩; exact ⟨rfl, e_, h_⟩)), (fun H' m_ hH hm_ hu_ => dn <| s_d (m_ 3) rfl (Xi (o' := 2) Tryz.underlying40 rfl sz37 rfl rfl rfl) (by exact rfl) rfl), (by rintro H' m_ hH hm_ hu_ _ rfl; exact dn <| s_d (m_ 4) rfl (QN (v := (Qa a.f_D v1_a)) ty37 rfl .h2 rfl rfl rfl rfl) (by exact rfl) rfl), (by rintro H' m_ hH hm_ hu_ _ rfl; exact dn <| s_k (m_ 5) rfl (Qm co97 (vs := [(Qa a.f_D v1_a)]) rfl (XL.calls k (a := a.f_D) hy10 (h1_a.mono hH))) rfl (by rintro v_ H_ _ ⟨rfl, e_, h_⟩; exact ⟨rfl, e_, h_⟩)), (by rintro H' m_ hH hm_ hu_ _ ⟨v7, rfl, h8⟩ _ ⟨v13, rfl, h14⟩; exact dn <| s_k (m_ 6) rfl (Qm co73 (vs := [(Qd y3 v7), (Qd y9 v13)]) rfl (XD.calls k (n := y3) (d := y9) hy16 h8 h14)) rfl (by rintro v_ H_ _ ⟨rfl, e_, h_⟩; exact ⟨rfl, e_, h_⟩)), (by rintro H' m_ hH hm_ hu_ _ ⟨v19, v21, rfl, h20, h22⟩; exact dn <| s_d (m_ 7) rfl (QT (v := .tuple ⟨[(Qc y15.1 v19 v21), errV 104 y15.2]⟩) rfl) (by exact ⟨v19, v21, rfl, h20, h22⟩) rfl), (by rintro H' m_ hH hm_ hu_ _ ⟨v23, v25, rfl, h24, h26⟩; exact dn <| s_d (m_ 8) rfl (Q5 rfl rfl) (by exact ⟨v23, v25, rfl, h24, h26⟩) rfl), (by rintro H' m_ hH hm_ hu_ _ ⟨v23, v25, rfl, h24, h26⟩; exact dn <| s_d (m_ 9) rfl (Q5 rfl rfl) (by exact rfl) rfl), (fun H' m_ hH hm_ hu_ => dn <| Y8 hm_ rfl rfl (YT zr26 rfl) rfl (fun _ => (ZZ (hu_ 11 (by kernel_rfl)))) (by exact fun b_ => ⟨b_, rfl, rfl⟩)), (by rintro H' m_ hH hm_ hu_ _ ⟨v27, v29, rfl, h28, h30⟩ _ ⟨b31, rfl, hb31_⟩; exact dn <| Zv (Λ' := fun z_ => z_ :: bx b2 z0c 26 :: bx b1 (XZ a v0_a v1_a) 40 :: L) (bx b31 (Xa y15.1 v27 v29) 26) hm_ rfl hb31_ rfl (YO (v := (Qc y15.1 v27 v29)) sz26 rfl rfl rfl rfl (oc rfl (oc (h28.one) (oc rfl (oc (h30.one) oz)))) .here u4) rfl rfl (by exact ⟨rfl, v27, v29, congrArg (fun b_ => (some (b_, Obj.cells ⟨(Xa y15.1 v27 v29)⟩ 26 (0, 0)) : Item')) (Z2 hb31_).symm, h28, h30⟩)), trivial⟩ ?_
 intro H38 e39
 rintro _ _ rfl _ _ rfl _ _ ⟨v7, rfl, h8⟩ _ _ rfl _ _ rfl _ _ ⟨v13, rfl, h14⟩ _ _ ⟨v19, v21, rfl, h20, h22⟩ _ _ ⟨v23, v25, rfl, h24, h26⟩ _ _ ⟨v27, v29, rfl, h28, h30⟩ _ _ rfl _ _ ⟨b31, rfl, rfl⟩ _ i36 ⟨rfl, v32, v34, h37, h33, h35⟩
 replace h37 : i36 = bx b31 (Xa y15.1 v32 v34) 26 := h37
 subst h37
 refine w_it (L' := bx b31 (Xa y15.1 v32 v34) 26 :: bx b2 z0c 26 :: bx b1 (XZ a v0_a v1_a) 40 :: L) rfl <| wA (errV 104 y15.2) rfl rfl <| wQ rfl <| wL (Qc y15.1 v32 v34) ty26 rfl rfl .here rfl rfl <| wS (Qc y15.1 v32 v34) sz26 rfl rfl rfl rfl rfl (XP h33 h35) .h1 u4 <| Qb ?_
 obtain rfl := sj he
 refine Ql fn_42 rs_42 (.box (v := (Qc y15.1 v32 v34)) rfl ty26 rfl rfl .h1 rfl .nil) <| ⟨⟨[_, _, _], rfl⟩, hle.trans e39, ⟨v32, v34, rfl, h33, h35⟩⟩
noncomputable def Ya.C : Code := (Tryz.f77.body).getD .skip
def Ya.out (r : Qf × (Option Int)) (H : Hp) (v : Value) : Prop := ∃ v0 v1, v = .tuple ⟨[(Qc r.1 v0 v1), errV 104 r.2]⟩ ∧ Ro kU32 H v0 r.1.f_n.f_w ∧ Ro kU32 H v1 r.1.f_d.f_w
theorem Ya.out_mono (r : Qf × (Option Int)) {H H' : Hp} {v : Value} (hle : H.le H') (h : Ya.out r H v) : Ya.out r H' v := by
 obtain ⟨v0, v1, rfl, h0, h1⟩ := h; exact ⟨v0, v1, rfl, h0.mono hle, h1.mono hle⟩
noncomputable def Ya.f (k : Nat) (n m d e_ : Qv) : Option (Qf × (Option Int)) := (Xv.f k n m).bind fun y6 => if y6.2.isSome = true then (some (⟨⟨false, []⟩, ⟨false, []⟩⟩, y6.2)) else ((Xv.f k d e_).bind fun y14 => if y14.2.isSome = true then (some (⟨⟨false, []⟩, ⟨false, []⟩⟩, y14.2)) else ((XD.f k y6.1 y14.1).bind fun y22 => some (y22.1, y22.2)))
theorem Ya.mono : ∀ k y0 y1 y2 y3, LeO (Ya.f k y0 y1 y2 y3) (Ya.f (k + 1) y0 y1 y2 y3) := fun k _ _ _ _ => by unfold Ya.f; exact (LeO.bind (Xv.mono k _ _) fun _ => LeO.ite (LeO.refl _) (LeO.bind (Xv.mono k _ _) fun _ => LeO.ite (LeO.refl _) (LeO.bind (XD.mono k _ _) fun _ => LeO.refl _)))
theorem Ya.calls (k : Nat) {H : Hp} {L : Items} {n m d e_ : Qv} {v0_n v1_m v2_d v3_e_ : Value} {r : Qf × (Option Int)} (he : Ya.f k n m d e_ = some r) (h0_n : Ro kU32 H v0_n n.f_w) (h1_m : Ro kU32 H v1_m m.f_w) (h2_d : Ro kU32 H v2_d d.f_w) (h3_e_ : Ro kU32 H v3_e_ e_.f_w) : Ct Tryz.prog 77 ⟨[(Qd n v0_n), (Qd m v1_m), (Qd d v2_d), (Qd e_ v3_e_)]⟩ H L (cR H L (Ya.out r)) := by
 refine XN (O := Ya.out r) ?_
 have hle : H.le H := .refl _
 unfold Ya.f at he
 refine QV (args := [_, _, _, _]) fn_77 rfl nt_77 rfl <| wR rfl <| wB (Qd n v0_n) rfl rfl rfl <| fun b1 => wB (Qd m v1_m) rfl rfl rfl <| fun b2 => wB (Qd d v2_d) rfl rfl rfl <| fun b3 => wB (Qd e_ v3_e_) rfl rfl rfl <| fun b4 => wN zr26 rfl rfl fun b5 => wA (errV 104 none) rfl rfl <| wQ rfl ?_
 refine wL (Qd n v0_n) ty24 rfl rfl .h4 rfl rfl <| wL (Qd m v1_m) ty24 rfl rfl .h3 rfl rfl <| bK he fun y6 hy7 he => w_a rfl (Qm co128 (vs := [(Qd n v0_n), (Qd m v1_m)]) rfl (Xv.calls k (a := n) (b := m) hy7 h0_n h1_m)) ?_
 rintro _ H8 _ ⟨rfl, e9, v10, rfl, h11⟩
 refine wM (.tuple ⟨[(Qd y6.1 v10), errV 104 y6.2]⟩) rfl rfl <| w_d rfl (Q5 rfl rfl) <| w_d rfl (Q5 rfl rfl) <| wN zr24 rfl rfl fun b12 => wS (Qd y6.1 v10) sz24 rfl rfl rfl rfl rfl (XF h11) .here u2 <| wA (errV 104 y6.2) rfl rfl <| wE <| wR rfl <| wM (errV 104 y6.2) rfl rfl <| w_d rfl (Yj (e := y6.2) Tryz.underlying30 rfl) ?_
 refine Qb ?_
 rcases its he with ⟨c13, he⟩ | ⟨c13, he⟩
 ·
  refine QD rfl c13 <| wR rfl <| w_d rfl (XE (cs' := z0c) Tryz.underlying26 zr26 rfl (by kernel_rfl) (parts := []) rfl .nil) <| wM (errV 104 y6.2) rfl rfl <| wS (.agg ⟨z0c⟩) sz26 rfl rfl rfl rfl rfl (oc rfl (oc rfl (oc rfl (oc rfl oz)))) .h1 u4 <| wA (errV 104 y6.2) rfl rfl <| Qb ?_
  obtain rfl := sj he
  refine Ql fn_77 rs_77 (.box (v := .agg ⟨z0c⟩) rfl ty26 rfl rfl .h1 rfl (.tmp (v := errV 104 y6.2) rfl .nil)) <| ⟨⟨[_, _, _, _, _, _], rfl⟩, hle.trans e9, ⟨.slice none 0 0, .slice none 0 0, rfl, (Xj _ _), (Xj _ _)⟩⟩
 ·
  refine QE rfl (Bool.eq_false_iff.2 c13) <| QF <| wR rfl <| wL (Qd d v2_d) ty24 rfl rfl .h3 rfl rfl <| wL (Qd e_ v3_e_) ty24 rfl rfl .h2 rfl rfl <| bK he fun y14 hy15 he => w_a rfl (Qm co128 (vs := [(Qd d v2_d), (Qd e_ v3_e_)]) rfl (Xv.calls k (a := d) (b := e_) hy15 (h2_d.mono e9) (h3_e_.mono e9))) ?_
  rintro _ H16 _ ⟨rfl, e17, v18, rfl, h19⟩
  refine wM (.tuple ⟨[(Qd y14.1 v18), errV 104 y14.2]⟩) rfl rfl <| w_d rfl (Q5 rfl rfl) <| w_d rfl (Q5 rfl rfl) <| wN zr24 rfl rfl fun b20 => wS (Qd y14.1 v18) sz24 rfl rfl rfl rfl rfl (XF h19) .here u2 <| wA (errV 104 y14.2) rfl rfl <| wE <| wR rfl <| wM (errV 104 y14.2) rfl rfl <| w_d rfl (Yj (e := y14.2) Tryz.underlying30 rfl) ?_
  refine Qb ?_
  rcases its he with ⟨c21, he⟩ | ⟨c21, he⟩
  ·
   refine QD rfl c21 <| wR rfl <| w_d rfl (XE (cs' := z0c) Tryz.underlying26 zr26 rfl (by kernel_rfl) (parts := []) rfl .nil) <| wM (errV 104 y14.2) rfl rfl <| wS (.agg ⟨z0c⟩) sz26 rfl rfl rfl rfl rfl (oc rfl (oc rfl (oc rfl (oc rfl oz)))) .h2 u4 <| wA (errV 104 y14.2) rfl rfl <| Qb ?_
   obtain rfl := sj he
   refine Ql fn_77 rs_77 (.box (v := .agg ⟨z0c⟩) rfl ty26 rfl rfl .h2 rfl (.tmp (v := errV 104 y14.2) rfl .nil)) <| ⟨⟨[_, _, _, _, _, _, _], rfl⟩, hle.trans (e9.trans e17), ⟨.slice none 0 0, .slice none 0 0, rfl, (Xj _ _), (Xj _ _)⟩⟩
  ·
   refine QE rfl (Bool.eq_false_iff.2 c21) <| QF <| wR rfl <| wL (Qd y6.1 v10) ty24 rfl rfl .h1 rfl rfl <| wL (Qd y14.1 v18) ty24 rfl rfl .here rfl rfl <| bK he fun y22 hy23 he => w_a rfl (Qm co73 (vs := [(Qd y6.1 v10), (Qd y14.1 v18)]) rfl (XD.calls k (n := y6.1) (d := y14.1) hy23 (h11.mono e17) h19)) ?_
   rintro _ H24 _ ⟨rfl, e25, v26, v28, rfl, h27, h29⟩
   refine w_d rfl (Q5 rfl rfl) <| w_d rfl (Q5 rfl rfl) <| wS (Qc y22.1 v26 v28) sz26 rfl rfl rfl rfl rfl (XP h27 h29) .h2 u4 <| wA (errV 104 y22.2) rfl rfl <| Qb ?_
   obtain rfl := sj he
   refine Ql fn_77 rs_77 (.box (v := (Qc y22.1 v26 v28)) rfl ty26 rfl rfl .h2 rfl (.tmp (v := errV 104 y22.2) rfl .nil)) <| ⟨⟨[_, _, _, _, _, _, _], rfl⟩, hle.trans ((e9.trans e17).trans e25), ⟨v26, v28, rfl, h27, h29⟩⟩
noncomputable def XO.C : Code := (Tryz.f24.body).getD .skip
def XO.out (r : Qf × (Option Int)) (H : Hp) (v : Value) : Prop := ∃ v0 v1, v = .tuple ⟨[(Qc r.1 v0 v1), errV 104 r.2]⟩ ∧ Ro kU32 H v0 r.1.f_n.f_w ∧ Ro kU32 H v1 r.1.f_d.f_w
theorem XO.out_mono (r : Qf × (Option Int)) {H H' : Hp} {v : Value} (hle : H.le H') (h : XO.out r H v) : XO.out r H' v := by
 obtain ⟨v0, v1, rfl, h0, h1⟩ := h; exact ⟨v0, v1, rfl, h0.mono hle, h1.mono hle⟩
noncomputable def XO.f (k : Nat) (a b : Qf) : Option (Qf × (Option Int)) := (QA.f k a).bind fun y4 => (QA.f k b).bind fun y10 => (Ya.f k a.f_n b.f_n y4 y10).bind fun y16 => some (y16.1, y16.2)
theorem XO.mono : ∀ k y0 y1, LeO (XO.f k y0 y1) (XO.f (k + 1) y0 y1) := fun k _ _ => by unfold XO.f; exact (LeO.bind (QA.mono k _) fun _ => LeO.bind (QA.mono k _) fun _ => LeO.bind (Ya.mono k _ _ _ _) fun _ => LeO.refl _)
theorem XO.calls (k : Nat) {H : Hp} {L : Items} {a b : Qf} {v0_a v1_a v2_b v3_b : Value} {r : Qf × (Option Int)} (he : XO.f k a b = some r) (h0_a : Ro kU32 H v0_a a.f_n.f_w) (h1_a : Ro kU32 H v1_a a.f_d.f_w) (h2_b : Ro kU32 H v2_b b.f_n.f_w) (h3_b : Ro kU32 H v3_b b.f_d.f_w) : Ct Tryz.prog 24 ⟨[(Qc a v0_a v1_a), (Qc b v2_b v3_b)]⟩ H L (cR H L (XO.out r)) := by
 refine XN (O := XO.out r) ?_
 have hle : H.le H := .refl _
 unfold XO.f at he
 refine QV (args := [_, _]) fn_24 rfl nt_24 rfl <| wR rfl <| wB (Qc a v0_a v1_a) rfl rfl rfl <| fun b1 => wB (Qc b v2_b v3_b) rfl rfl rfl <| fun b2 => wN zr26 rfl rfl fun b3 => wA (errV 104 none) rfl rfl <| wE <| bK he fun y4 hy5 he => bK he fun y10 hy11 he => bK he fun y16 hy17 he => ?_
 refine XC (p := 11) (tl := [11, 12]) [[], [(0, some 6)], [], [(2, some 8)], [], [(4, some 10)], [], [(6, some 12)], [(1, some 7), (3, some 9), (5, some 11), (7, some 13)], [(8, some 14)], [(8, some 14)]] [some 6, some 7, some 8, some 9, some 10, some 11, some 12, some 13, some 14, some 15, some 16] (fctF (.is (pt b1) :: .is (Qd a.f_n v0_a) :: .is (pt b2) :: .is (Qd b.f_n v2_b) :: .is (Qc a v0_a v1_a) :: .of (QA.out y4) (QA.out_mono _) :: .is (Qc b v2_b v3_b) :: .of (QA.out y10) (QA.out_mono _) :: .of (Ya.out y16) (Ya.out_mono _) :: .of (fun H v => ∃ v24 v26, v = (Qc y16.1 v24 v26) ∧ Ro kU32 H v24 y16.1.f_n.f_w ∧ Ro kU32 H v26 y16.1.f_d.f_w) (by rintro _ _ _ hle ⟨v24, v26, rfl, h25, h27⟩; exact ⟨v24, v26, rfl, h25.mono hle, h27.mono hle⟩) :: .is (errV 104 y16.2) :: [])) (fun m_ => bx b3 z0c 26 :: bx b2 (Xa b v2_b v3_b) 26 :: bx b1 (Xa a v0_a v1_a) 26 :: L) (fun _ => none) mixed (by kernel_rfl) (by kernel_rfl) rfl (Xq (by kernel_rfl)) ⟨(fun H' m_ hH hm_ hu_ => dn <| s_d (m_ 0) rfl (Xi (o' := 0) Tryz.underlying26 rfl sz24 rfl rfl rfl) (by exact rfl) rfl), (by rintro H' m_ hH hm_ hu_ _ rfl; exact dn <| s_d (m_ 1) rfl (QN (v := (Qd a.f_n v0_a)) ty24 rfl .h2 rfl rfl rfl rfl) (by exact rfl) rfl), (fun H' m_ hH hm_ hu_ => dn <| s_d (m_ 2) rfl (Xi (o' := 0) Tryz.underlying26 rfl sz24 rfl rfl rfl) (by exact rfl) rfl), (by rintro H' m_ hH hm_ hu_ _ rfl; exact dn <| s_d (m_ 3) rfl (QN (v := (Qd b.f_n v2_b)) ty24 rfl .h1 rfl rfl rfl rfl) (by exact rfl) rfl), (fun H' m_ hH hm_ hu_ => dn <| s_d (m_ 4) rfl (QN (v := (Qc a v0_a v1_a)) ty26 rfl .h2 rfl rfl rfl rfl) (by exact rfl) rfl), (by rintro H' m_ hH hm_ hu_ _ rfl; exact dn <| s_k (m_ 5) rfl (Qm co78 (vs := [(Qc a v0_a v1_a)]) rfl (QA.calls k (a := a) hy5 (h0_a.mono hH) (h1_a.mono hH))) rfl (by rintro v_ H_ _ ⟨rfl, e_, h_⟩; exact ⟨rfl, e_, h_⟩)), (fun H' m_ hH hm_ hu_ => dn <| s_d (m_ 6) rfl (QN (v := (Qc b v2_b v3_b)) ty26 rfl .h1 rfl rfl rfl rfl) (by exact rfl) rfl), (by rintro H' m_ hH hm_ hu_ _ rfl; exact dn <| s_k (m_ 7) rfl (Qm co78 (vs := [(Qc b v2_b v3_b)]) rfl (QA.calls k (a := b) hy11 (h2_b.mono hH) (h3_b.mono hH))) rfl (by rintro v_ H_ _ ⟨rfl, e_, h_⟩; exact ⟨rfl, e_, h_⟩)), (by rintro H' m_ hH hm_ hu_ _ rfl _ rfl _ ⟨v8, rfl, h9⟩ _ ⟨v14, rfl, h15⟩; exact dn <| s_k (m_ 8) rfl (Qm co77 (vs := [(Qd a.f_n v0_a), (Qd b.f_n v2_b), (Qd y4 v8), (Qd y10 v14)]) rfl (Ya.calls k (n := a.f_n) (m := b.f_n) (d := y4) (e_ := y10) hy17 (h0_a.mono hH) (h2_b.mono hH) h9 h15)) rfl (by rintro v_ H_ _ ⟨rfl, e_, h_⟩; exact ⟨rfl, e_, h_⟩)), (by rintro H' m_ hH hm_ hu_ _ ⟨v20, v22, rfl, h21, h23⟩; exact dn <| s_d (m_ 9) rfl (Q5 rfl rfl) (by exact ⟨v20, v22, rfl, h21, h23⟩) rfl), (by rintro H' m_ hH hm_ hu_ _ ⟨v20, v22, rfl, h21, h23⟩; exact dn <| s_d (m_ 10) rfl (Q5 rfl rfl) (by exact rfl) rfl), trivial⟩ ?_
 intro H28 e29
 rintro _ _ rfl _ _ rfl _ _ rfl _ _ rfl _ _ rfl _ _ ⟨v8, rfl, h9⟩ _ _ rfl _ _ ⟨v14, rfl, h15⟩ _ _ ⟨v20, v22, rfl, h21, h23⟩ _ _ ⟨v24, v26, rfl, h25, h27⟩ _ _ rfl
 refine wS (Qc y16.1 v24 v26) sz26 rfl rfl rfl rfl rfl (XP h25 h27) .here u4 <| wA (errV 104 y16.2) rfl rfl <| Qb ?_
 obtain rfl := sj he
 refine Ql fn_24 rs_24 (.box (v := (Qc y16.1 v24 v26)) rfl ty26 rfl rfl .here rfl (.tmp (v := errV 104 y16.2) rfl .nil)) <| ⟨⟨[_, _, _], rfl⟩, hle.trans e29, ⟨v24, v26, rfl, h25, h27⟩⟩
noncomputable def Yw.C : Code := (Tryz.f96.body).getD .skip
def Yw.out (r : Qf × (Option Int)) (H : Hp) (v : Value) : Prop := ∃ v0 v1, v = .tuple ⟨[(Qc r.1 v0 v1), errV 104 r.2]⟩ ∧ Ro kU32 H v0 r.1.f_n.f_w ∧ Ro kU32 H v1 r.1.f_d.f_w
noncomputable def Yw.f (k : Nat) (a times more : Qf) : Option (Qf × (Option Int)) := (XO.f k a times).bind fun y5 => if y5.2.isSome = true then (some (⟨⟨false, []⟩, ⟨false, []⟩⟩, y5.2)) else ((XV.f k y5.1 more).bind fun y15 => some (y15.1, y15.2))
theorem Yw.mono : ∀ k y0 y1 y2, LeO (Yw.f k y0 y1 y2) (Yw.f (k + 1) y0 y1 y2) := fun k _ _ _ => by unfold Yw.f; exact (LeO.bind (XO.mono k _ _) fun _ => LeO.ite (LeO.refl _) (LeO.bind (XV.mono k _ _) fun _ => LeO.refl _))
theorem Yw.calls (k : Nat) {H : Hp} {L : Items} {a times more : Qf} {v0_a v1_a v2_times v3_times v4_more v5_more : Value} {r : Qf × (Option Int)} (he : Yw.f k a times more = some r) (h0_a : Ro kU32 H v0_a a.f_n.f_w) (h1_a : Ro kU32 H v1_a a.f_d.f_w) (h2_times : Ro kU32 H v2_times times.f_n.f_w) (h3_times : Ro kU32 H v3_times times.f_d.f_w) (h4_more : Ro kU32 H v4_more more.f_n.f_w) (h5_more : Ro kU32 H v5_more more.f_d.f_w) : Ct Tryz.prog 96 ⟨[(Qc a v0_a v1_a), (Qc times v2_times v3_times), (Qc more v4_more v5_more)]⟩ H L (cR H L (Yw.out r)) := by
 refine XN (O := Yw.out r) ?_
 have hle : H.le H := .refl _
 unfold Yw.f at he
 refine QV (args := [_, _, _]) fn_96 rfl nt_96 rfl <| wR rfl <| wB (Qc a v0_a v1_a) rfl rfl rfl <| fun b1 => wB (Qc times v2_times v3_times) rfl rfl rfl <| fun b2 => wB (Qc more v4_more v5_more) rfl rfl rfl <| fun b3 => wN zr26 rfl rfl fun b4 => wA (errV 104 none) rfl rfl <| wQ rfl <| wL (Qc a v0_a v1_a) ty26 rfl rfl .h3 rfl rfl ?_
 refine wL (Qc times v2_times v3_times) ty26 rfl rfl .h2 rfl rfl <| bK he fun y5 hy6 he => w_a rfl (Qm co24 (vs := [(Qc a v0_a v1_a), (Qc times v2_times v3_times)]) rfl (XO.calls k (a := a) (b := times) hy6 h0_a h1_a h2_times h3_times)) ?_
 rintro _ H7 _ ⟨rfl, e8, v9, v11, rfl, h10, h12⟩
 refine wM (.tuple ⟨[(Qc y5.1 v9 v11), errV 104 y5.2]⟩) rfl rfl <| w_d rfl (Q5 rfl rfl) <| w_d rfl (Q5 rfl rfl) <| wN zr26 rfl rfl fun b13 => wS (Qc y5.1 v9 v11) sz26 rfl rfl rfl rfl rfl (XP h10 h12) .here u4 <| wA (errV 104 y5.2) rfl rfl <| wE <| wR rfl <| wM (errV 104 y5.2) rfl rfl <| w_d rfl (Yj (e := y5.2) Tryz.underlying30 rfl) ?_
 refine Qb ?_
 rcases its he with ⟨c14, he⟩ | ⟨c14, he⟩
 ·
  refine QD rfl c14 <| wR rfl <| w_d rfl (XE (cs' := z0c) Tryz.underlying26 zr26 rfl (by kernel_rfl) (parts := []) rfl .nil) <| wM (errV 104 y5.2) rfl rfl <| wS (.agg ⟨z0c⟩) sz26 rfl rfl rfl rfl rfl (oc rfl (oc rfl (oc rfl (oc rfl oz)))) .h1 u4 <| wA (errV 104 y5.2) rfl rfl <| Qb ?_
  obtain rfl := sj he
  refine Ql fn_96 rs_96 (.box (v := .agg ⟨z0c⟩) rfl ty26 rfl rfl .h1 rfl (.tmp (v := errV 104 y5.2) rfl .nil)) <| ⟨⟨[_, _, _, _, _], rfl⟩, hle.trans e8, ⟨.slice none 0 0, .slice none 0 0, rfl, (Xj _ _), (Xj _ _)⟩⟩
 ·
  refine QE rfl (Bool.eq_false_iff.2 c14) <| QF <| wR rfl <| wL (Qc y5.1 v9 v11) ty26 rfl rfl .here rfl rfl <| wL (Qc more v4_more v5_more) ty26 rfl rfl .h2 rfl rfl <| bK he fun y15 hy16 he => w_a rfl (Qm co23 (vs := [(Qc y5.1 v9 v11), (Qc more v4_more v5_more)]) rfl (XV.calls k (a := y5.1) (b := more) hy16 h10 h12 (h4_more.mono e8) (h5_more.mono e8))) ?_
  rintro _ H17 _ ⟨rfl, e18, v19, v21, rfl, h20, h22⟩
  refine w_d rfl (Q5 rfl rfl) <| w_d rfl (Q5 rfl rfl) <| wS (Qc y15.1 v19 v21) sz26 rfl rfl rfl rfl rfl (XP h20 h22) .h1 u4 <| wA (errV 104 y15.2) rfl rfl <| Qb ?_
  obtain rfl := sj he
  refine Ql fn_96 rs_96 (.box (v := (Qc y15.1 v19 v21)) rfl ty26 rfl rfl .h1 rfl (.tmp (v := errV 104 y15.2) rfl .nil)) <| ⟨⟨[_, _, _, _, _], rfl⟩, hle.trans (e8.trans e18), ⟨v19, v21, rfl, h20, h22⟩⟩
end Go.Proofs.YtkccpkccdbfomaaGreatDoor.GBP

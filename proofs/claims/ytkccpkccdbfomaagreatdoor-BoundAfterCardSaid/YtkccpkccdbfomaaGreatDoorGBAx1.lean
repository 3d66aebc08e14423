/- printed by gen.py -/
import Derived.Test.YtkccpkccdbfomaaGreatDoorGBAx0
namespace Go.Proofs.YtkccpkccdbfomaaGreatDoor.GBA
open Go Go.RowKit Go.Proofs.YtkccpkccdbfomaaGreatDoorK Go.Proofs.YtkccpkccdbfomaaGreatDoor
set_option maxRecDepth 100000
set_option maxHeartbeats 2000000
set_option linter.unusedVariables false
set_option linter.unusedSimpArgs false
noncomputable def Qu.C : Code := (Tryz.f65.body).getD .skip
def Qu.out (r : Qf × Qf) (H : Hp) (v : Value) : Prop := ∃ v0 v1, v = .tuple ⟨[(Qa r.1 v0), (Qa r.2 v1)]⟩ ∧ Ro kI64 H v0 r.1.f_D ∧ Ro kI64 H v1 r.2.f_D
abbrev Qu.R (H0 : Hp) (L : Items) (r : Qf × Qf) := fR H0 L (Qu.out r)
structure Qu.Hs where
 l0 : Bool → (List Int) → Bool → (List Int) → (List Int) → (List Int) → Int → Option (Qf × Qf)
 l1 : Bool → (List Int) → Bool → (List Int) → (List Int) → (List Int) → Int → Option (Qf × Qf)
noncomputable def Qu.b0 (k : Nat) (h : Qu.Hs) (a_0 : Bool) (a_1 : List Int) (b_0 : Bool) (b_1 rest q : List Int) (i : Int) : Option (Qf × Qf) := if 0 ≤ i then (if (0 : Int) ≤ i ∧ i < (a_1.length : Int) then (if [rd a_1 i].length + rest.length ≤ 17592186044288 then ((QJ.f k ([rd a_1 i] ++ rest)).bind fun y21 => h.l1 a_0 a_1 b_0 b_1 y21 q i) else none) else none) else ((QJ.f k q).bind fun y30 => (Xs.f k (!(a_0 == b_0)) y30).bind fun y36 => (Xs.f k false rest).bind fun y45 => if (a_0 && (decide (0 < (rest.length : Int)))) = true then ((Qj.f k b_1 rest).bind fun y56 => (Xs.f k false y56).bind fun y62 => if b_0 = true then ((Qv.f k 1).bind fun y69 => (XT.f k y36 y69).bind fun y77 => some (y77, y62)) else ((Qv.f k 1).bind fun y85 => (Yy.f k y36 y85).bind fun y93 => some (y93, y62))) else (some (y36, y45)))
noncomputable def Qu.b1 (k : Nat) (h : Qu.Hs) (a_0 : Bool) (a_1 : List Int) (b_0 : Bool) (b_1 rest q : List Int) (i : Int) : Option (Qf × Qf) := (QR.f k rest b_1).bind fun y103 => if (!y103) = true then ((Qj.f k rest b_1).bind fun y108 => if (0 : Int) ≤ i ∧ i < (q.length : Int) then (if (0 : Int) ≤ i ∧ i < (q.length : Int) then (h.l1 a_0 a_1 b_0 b_1 y108 (q.set (i : Int).toNat (w64 ((rd q i) + 1))) i) else none) else none) else (h.l0 a_0 a_1 b_0 b_1 rest q (w64 (i - 1)))
noncomputable def Qu.hs : Nat → Qu.Hs
 | 0 => ⟨fun _ _ _ _ _ _ _ => none, fun _ _ _ _ _ _ _ => none⟩
 | k + 1 => ⟨fun x0 x1 x2 x3 x4 x5 x6 => Qu.b0 k (Qu.hs k) x0 x1 x2 x3 x4 x5 x6, fun x0 x1 x2 x3 x4 x5 x6 => Qu.b1 k (Qu.hs k) x0 x1 x2 x3 x4 x5 x6⟩
noncomputable def Qu.f (k : Nat) (a b : Qf) : Option (Qf × Qf) := (fun h : Qu.Hs => if 0 ≤ (a.f_D.length : Int) ∧ (a.f_D.length : Int) ≤ 35184372088832 then (h.l0 a.f_Neg a.f_D b.f_Neg b.f_D [] (List.replicate ((a.f_D.length : Int) : Int).toNat (0 : Int)) (w64 ((a.f_D.length : Int) - 1))) else none) (Qu.hs k)
noncomputable def Qu.Kl0 : List Item := .code (lopB (blkB (seqR (seqL (seqR (seqR (seqR Qu.C))))))) :: .inLoop (lopB (blkB (seqR (seqL (seqR (seqR (seqR Qu.C))))))) :: .inBlock 0 :: .code (seqR (seqR (seqR (seqR Qu.C)))) :: []
noncomputable def Qu.Kl1 : List Item := .code (lopB (blkB (seqR (blkB (seqL (seqR (lopB (blkB (seqR (seqL (seqR (seqR (seqR Qu.C))))))))))))) :: .inLoop (lopB (blkB (seqR (blkB (seqL (seqR (lopB (blkB (seqR (seqL (seqR (seqR (seqR Qu.C))))))))))))) :: .inBlock 2 :: .inBlock 1 :: .code (seqR (seqR (lopB (blkB (seqR (seqL (seqR (seqR (seqR Qu.C))))))))) :: .inLoop (lopB (blkB (seqR (seqL (seqR (seqR (seqR Qu.C))))))) :: .inBlock 0 :: .code (seqR (seqR (seqR (seqR Qu.C)))) :: []
structure Qu.OK (h : Qu.Hs) : Prop where
 l0 : ∀ {H0 H : Hp} {L : Items} {r : Qf × Qf} {jk_ : Nat → Value} {a_0 : Bool} {a_1 : List Int} {b_0 : Bool} {b_1 : List Int} {rest : List Int} {q : List Int} {i : Int} {v_a_1 : Value} {v_b_1 : Value} {v_rest : Value} {v_q : Value} {i_q : Item'} {b_a : Nat} {b_b : Nat} {b_t4 : Nat} {b_t5 : Nat} (_ : H0.le H) (_he : h.l0 a_0 a_1 b_0 b_1 rest q i = some r) (_h_a_1 : Ro kI64 H v_a_1 a_1) (_h_b_1 : Ro kI64 H v_b_1 b_1) (_h_rest : Ro kI64 H v_rest rest) (_h_q : Sl kI64 H 3 i_q v_q q), Wp Tryz.prog 65 79 Qu.Kl0 (upd (upd (upd (upd (upd (upd (upd jk_ 2 (pt b_a)) 3 (pt b_b)) 4 (pt b_t4)) 5 (pt b_t5)) 6 (v_rest)) 7 (v_q)) 8 (.int .i64 i)) H (i_q :: bx b_t5 [.bool false, .slice none 0 0] 37 :: bx b_t4 [.bool false, .slice none 0 0] 37 :: bx b_b [.bool b_0, v_b_1] 37 :: bx b_a [.bool a_0, v_a_1] 37 :: L) (Qu.R H0 L r)
 l1 : ∀ {H0 H : Hp} {L : Items} {r : Qf × Qf} {jk_ : Nat → Value} {a_0 : Bool} {a_1 : List Int} {b_0 : Bool} {b_1 : List Int} {rest : List Int} {q : List Int} {i : Int} {v_a_1 : Value} {v_b_1 : Value} {v_rest : Value} {v_q : Value} {i_q : Item'} {b_a : Nat} {b_b : Nat} {b_t4 : Nat} {b_t5 : Nat} (_ : H0.le H) (_he : h.l1 a_0 a_1 b_0 b_1 rest q i = some r) (_h_a_1 : Ro kI64 H v_a_1 a_1) (_h_b_1 : Ro kI64 H v_b_1 b_1) (_h_rest : Ro kI64 H v_rest rest) (_h_q : Sl kI64 H 3 i_q v_q q), Wp Tryz.prog 65 79 Qu.Kl1 (upd (upd (upd (upd (upd (upd (upd jk_ 2 (pt b_a)) 3 (pt b_b)) 4 (pt b_t4)) 5 (pt b_t5)) 6 (v_rest)) 7 (v_q)) 8 (.int .i64 i)) H (i_q :: bx b_t5 [.bool false, .slice none 0 0] 37 :: bx b_t4 [.bool false, .slice none 0 0] 37 :: bx b_b [.bool b_0, v_b_1] 37 :: bx b_a [.bool a_0, v_a_1] 37 :: L) (Qu.R H0 L r)
theorem Qu.b0_ok {k : Nat} {h : Qu.Hs} (hh : Qu.OK h) {H0 H : Hp} {L : Items} {r : Qf × Qf} {jk_ : Nat → Value} {a_0 : Bool} {a_1 : List Int} {b_0 : Bool} {b_1 rest q : List Int} {i : Int} {v_a_1 v_b_1 v_rest v_q : Value} {i_q : Item'} {b_a b_b b_t4 b_t5 : Nat} (hle : H0.le H) (he : Qu.b0 k h a_0 a_1 b_0 b_1 rest q i = some r) (h_a_1 : Ro kI64 H v_a_1 a_1) (h_b_1 : Ro kI64 H v_b_1 b_1) (h_rest : Ro kI64 H v_rest rest) (h_q : Sl kI64 H 3 i_q v_q q) : Wp Tryz.prog 65 79 Qu.Kl0 (upd (upd (upd (upd (upd (upd (upd jk_ 2 (pt b_a)) 3 (pt b_b)) 4 (pt b_t4)) 5 (pt b_t5)) 6 (v_rest)) 7 (v_q)) 8 (.int .i64 i)) H (i_q :: bx b_t5 [.bool false, .slice none 0 0] 37 :: bx b_t4 [.bool false, .slice none 0 0] 37 :: bx b_b [.bool b_0, v_b_1] 37 :: bx b_a [.bool a_0, v_a_1] 37 :: L) (Qu.R H0 L r) := by
 unfold Qu.b0 at he
 unfold Qu.Kl0
 refine Q0 <| wR rfl <| wM (.int .i64 i) rfl rfl <| w_d rfl (ZJ rfl rfl) <| Qb ?_
 rcases its he with ⟨c9, he⟩ | ⟨c9, he⟩
 ·
  refine QE rfl (dt c9) <| QH <| Q0 <| Xa <| wR rfl <| w_d rfl (Q9 (o' := 1) Tryz.underlying37 rfl sz35 rfl rfl rfl) <| wL v_a_1 ty35 rfl rfl .h4 rfl rfl <| wM (.int .i64 i) rfl rfl <| rK he fun c10 he => w_d rfl (XK (sz := 1) Tryz.underlying35 sz3 rfl h_a_1.src rfl c10) <| w_d rfl (XP ty3 rfl h_a_1.src c10) ?_
  refine w_a rfl (o_buildSlice' (kd := kI64) (css := [[.int .i64 (rd a_1 i)]]) (xs := [rd a_1 i]) (parts := [(0, .int .i64 (rd a_1 i))]) Tryz.underlying35 ti3 rfl ⟨_, _, rfl, rfl, rfl⟩ ⟨rfl, trivial⟩ rfl (by decide)) ?_
  rintro v11 _ _ ⟨i12, rfl, rfl, h13⟩
  refine wM v_rest rfl rfl <| rK he fun c14 he => w_a rfl (o_append' (kd := kI64) (F := fun z_ => z_ :: i_q :: bx b_t5 [.bool false, .slice none 0 0] 37 :: bx b_t4 [.bool false, .slice none 0 0] 37 :: bx b_b [.bool b_0, v_b_1] 37 :: bx b_a [.bool a_0, v_a_1] 37 :: L) Tryz.underlying35 Tryz.underlying35 ti3 rfl (by first | omega | (simp only [List.nil_append, List.length_cons, List.length_nil]; omega)) rfl rfl h13 h_rest.src (fun _ => .here)) ?_
  rintro v15 _ _ ⟨i16, rfl, rfl, h17⟩
  refine YA h17 .here ?_
  intro H18 e19 h20
  refine bK he fun y21 hy22 he => w_a rfl (Qm co67 (vs := [v15]) rfl (QJ.calls k hy22 h20)) ?_
  rintro v25 H23 _ ⟨rfl, e24, h26⟩
  refine wA v25 rfl rfl <| Qb <| Xa <| X9 <| YB .here <| w_sl 2 (pt b_a) rfl <| w_sl 3 (pt b_b) rfl <| w_sl 4 (pt b_t4) rfl <| w_sl 5 (pt b_t5) rfl <| w_sl 6 (v25) rfl <| w_sl 7 (v_q) rfl <| w_sl 8 (.int .i64 i) rfl <| hh.l1 (hle.trans (e19.trans e24)) he (h_a_1.mono (e19.trans e24)) (h_b_1.mono (e19.trans e24)) h26 (h_q.mono (e19.trans e24))
 ·
  refine QF rfl (df c9) <| X8 rfl <| Q0 <| YA h_q .here ?_
  intro H27 e28 h29
  refine bK he fun y30 hy31 he => bK he fun y36 hy37 he => ?_
  refine Yx (?_)
  refine Xy (p := 9) (tl := [9]) [[], [(0, some 47)], [], [(2, some 49)], [(1, some 48), (3, some 50)], [], [(5, some 52)], [(4, some 51), (6, some 53)], []] [some 47, some 48, some 49, some 50, some 51, some 52, some 53, some 54, some 9] (fctF (.is (pt b_a) :: .is (.bool a_0) :: .is (pt b_b) :: .is (.bool b_0) :: .is (.bool (!(a_0 == b_0))) :: .is (v_q) :: .ro kI64 (y30) :: .of (Xs.out y36) (Xs.out_mono _) :: .box 37 [.bool false, .slice none 0 0] :: [])) (fun m_ => m_ 8 :: none :: bx b_t5 [.bool false, .slice none 0 0] 37 :: bx b_t4 [.bool false, .slice none 0 0] 37 :: bx b_b [.bool b_0, v_b_1] 37 :: bx b_a [.bool a_0, v_a_1] 37 :: L) (fun _ => none) mixed (by kernel_rfl) (by kernel_rfl) rfl (Xn (by kernel_rfl)) ⟨(fun H' m_ hH hm_ hu_ => dn <| s_d (m_ 0) rfl (Q9 (o' := 0) Tryz.underlying37 rfl sz4 rfl rfl rfl) (by exact rfl) rfl), (by rintro H' m_ hH hm_ hu_ _ rfl; exact dn <| s_d (m_ 1) rfl (QG (v := .bool a_0) ty4 rfl .h5 rfl rfl rfl rfl) (by exact rfl) rfl), (fun H' m_ hH hm_ hu_ => dn <| s_d (m_ 2) rfl (Q9 (o' := 0) Tryz.underlying37 rfl sz4 rfl rfl rfl) (by exact rfl) rfl), (by rintro H' m_ hH hm_ hu_ _ rfl; exact dn <| s_d (m_ 3) rfl (QG (v := .bool b_0) ty4 rfl .h4 rfl rfl rfl rfl) (by exact rfl) rfl), (by rintro H' m_ hH hm_ hu_ _ rfl _ rfl; exact dn <| s_d (m_ 4) rfl (Md (a := a_0) (b := b_0) Tryz.underlying4 rfl rfl) (by exact rfl) rfl), (fun H' m_ hH hm_ hu_ => dn <| s_d (m_ 5) rfl (QW (v := v_q) rfl) (by exact rfl) rfl), (by rintro H' m_ hH hm_ hu_ _ rfl; exact dn <| s_k (m_ 6) rfl (Qm co67 (vs := [v_q]) rfl (QJ.calls k hy31 (h29.mono hH))) rfl (by rintro v_ H_ _ ⟨rfl, e_, h_⟩; exact ⟨rfl, e_, h_⟩)), (by rintro H' m_ hH hm_ hu_ _ rfl v34 (h35 : Ro kI64 H' v34 y30); exact dn <| s_k (m_ 7) rfl (Qm co66 (vs := [.bool (!(a_0 == b_0)), v34]) rfl (Xs.calls k hy37 h35)) rfl (by rintro v_ H_ _ ⟨rfl, e_, h_⟩; exact ⟨rfl, e_, h_⟩)), (fun H' m_ hH hm_ hu_ => dn <| YV hm_ rfl rfl (YI zr37 rfl) rfl (fun _ => .here) (by exact fun b_ => ⟨b_, rfl, rfl⟩)), trivial⟩ ?_
  intro H43 e44
  rintro _ _ rfl _ _ rfl _ _ rfl _ _ rfl _ _ rfl _ _ rfl v34 _ (h35 : Ro kI64 H43 v34 y30) _ _ ⟨v40, rfl, h41⟩ _ _ ⟨b42, rfl, rfl⟩
  refine wS (Qa y36 v40) sz37 rfl rfl rfl rfl rfl (Q7 h41) .here u2 <| wQ rfl <| wM v_rest rfl rfl <| bK he fun y45 hy46 he => w_a rfl (Qm co66 (vs := [.bool false, v_rest]) rfl (Xs.calls k hy46 (h_rest.mono (e28.trans e44)))) ?_
  rintro _ H47 _ ⟨rfl, e48, v49, rfl, h50⟩
  refine wN zr37 rfl rfl fun b51 => wS (Qa y45 v49) sz37 rfl rfl rfl rfl rfl (Q7 h50) .here u2 <| wE <| wR rfl <| w_d rfl (Q9 (o' := 0) Tryz.underlying37 rfl sz4 rfl rfl rfl) <| w_d rfl (QG (v := .bool a_0) ty4 rfl .h6 rfl rfl rfl rfl) <| wM (.bool a_0) rfl rfl <| w_g (g := a_0) rfl rfl rfl wn_t (fun g52 => QW (v := v_rest) rfl) <| w_g (g := a_0) rfl rfl rfl wn_t (fun g53 => Xr Tryz.underlying35 (cvt g53) (h_rest.mono ((e28.trans e44).trans e48)).src) <| w_g (g := a_0) rfl rfl rfl wn_t (fun g54 => YR (cvt g54) rfl) ?_
  refine w_d rfl (d_and' (b := a_0) (p := (decide (0 < (rest.length : Int)))) rfl rfl rfl) <| Qb ?_
  rcases its he with ⟨c55, he⟩ | ⟨c55, he⟩
  ·
   refine QE rfl c55 <| wR rfl <| w_d rfl (Q9 (o' := 1) Tryz.underlying37 rfl sz35 rfl rfl rfl) <| w_d rfl (QG (v := v_b_1) ty35 rfl .h5 rfl rfl rfl rfl) <| wM v_rest rfl rfl <| bK he fun y56 hy57 he => w_a rfl (Qm co70 (vs := [v_b_1, v_rest]) rfl (Qj.calls k hy57 ((h_b_1.mono ((e28.trans e44).trans e48)).src) ((h_rest.mono ((e28.trans e44).trans e48)).src))) ?_
   rintro v60 H58 _ ⟨rfl, e59, h61⟩
   refine bK he fun y62 hy63 he => w_a rfl (Qm co66 (vs := [.bool false, v60]) rfl (Xs.calls k hy63 h61)) ?_
   rintro _ H64 _ ⟨rfl, e65, v66, rfl, h67⟩
   refine wS (Qa y62 v66) sz37 rfl rfl rfl rfl rfl (Q7 h67) .here u2 <| wQ rfl <| w_d rfl (Q9 (o' := 0) Tryz.underlying37 rfl sz4 rfl rfl rfl) <| w_d rfl (QG (v := .bool b_0) ty4 rfl .h5 rfl rfl rfl rfl) <| Qb ?_
   rcases its he with ⟨c68, he⟩ | ⟨c68, he⟩
   ·
    refine QE rfl c68 <| bK he fun y69 hy70 he => Xy (p := 2) (tl := [2, 3]) [[], []] [some 71, some 72] (fctF (.is (Qa y36 v40) :: .of (Qv.out y69) (Qv.out_mono _) :: [])) (fun m_ => bx b51 (QB y62 v66) 37 :: bx b42 (QB y36 v40) 37 :: none :: bx b_t5 [.bool false, .slice none 0 0] 37 :: bx b_t4 [.bool false, .slice none 0 0] 37 :: bx b_b [.bool b_0, v_b_1] 37 :: bx b_a [.bool a_0, v_a_1] 37 :: L) (fun _ => none) mixed (by kernel_rfl) (by kernel_rfl) rfl (Xn (by kernel_rfl)) ⟨(fun H' m_ hH hm_ hu_ => dn <| s_d (m_ 0) rfl (QG (v := (Qa y36 v40)) ty37 rfl .h1 rfl rfl rfl rfl) (by exact rfl) rfl), (fun H' m_ hH hm_ hu_ => dn <| s_k (m_ 1) rfl (Qm co16 (vs := [.int .i64 1]) rfl (Qv.calls k hy70)) rfl (by rintro v_ H_ _ ⟨rfl, e_, h_⟩; exact ⟨rfl, e_, h_⟩)), trivial⟩ ?_
    intro H75 e76
    rintro _ _ rfl _ _ ⟨v73, rfl, h74⟩
    refine bK he fun y77 hy78 he => w_a rfl (Qm co17 (vs := [(Qa y36 v40), (Qa y69 v73)]) rfl (XT.calls k (a := y36) (b := y69) hy78 (h41.mono (((e48.trans e59).trans e65).trans e76)) h74)) ?_
    rintro _ H79 _ ⟨rfl, e80, v81, rfl, h82⟩
    refine wS (Qa y77 v81) sz37 rfl rfl rfl rfl rfl (Q7 h82) .h1 u2 <| wE <| Xy (p := 3) (tl := [3]) [[], [], [(0, some 77)]] [some 77, some 78, none] (fctF (.is (Qa y77 v81) :: .is (Qa y62 v66) :: .itm (fun H itq_ => itq_ = bx b_t4 (QB y77 v81) 37) (by rintro _ _ _ hle rfl; exact rfl) :: [])) (fun m_ => bx b51 (QB y62 v66) 37 :: bx b42 (QB y77 v81) 37 :: none :: bx b_t5 [.bool false, .slice none 0 0] 37 :: m_ 2 :: bx b_b [.bool b_0, v_b_1] 37 :: bx b_a [.bool a_0, v_a_1] 37 :: L) (fun i_ => if i_ = 2 then bx b_t4 [.bool false, .slice none 0 0] 37 else none) mixed (by kernel_rfl) (by kernel_rfl) rfl (Xn (by kernel_rfl)) ⟨(fun H' m_ hH hm_ hu_ => dn <| s_d (m_ 0) rfl (QG (v := (Qa y77 v81)) ty37 rfl .h1 rfl rfl rfl rfl) (by exact rfl) rfl), (fun H' m_ hH hm_ hu_ => dn <| s_d (m_ 1) rfl (QG (v := (Qa y62 v66)) ty37 rfl .here rfl rfl rfl rfl) (by exact rfl) rfl), (by rintro H' m_ hH hm_ hu_ _ rfl; exact dn <| Zu (bx b_t4 (QB y77 v81) 37) hm_ rfl (YJ (v := (Qa y77 v81)) sz37 rfl rfl rfl rfl (oc rfl (oc (h82.one) oz)) .h4 u2) rfl (by exact ⟨rfl, rfl⟩)), trivial⟩ ?_
    intro H83 e84
    rintro _ _ rfl _ _ rfl _ _ ⟨rfl, rfl⟩
    refine w_it (L' := bx b51 (QB y62 v66) 37 :: bx b42 (QB y77 v81) 37 :: none :: bx b_t5 [.bool false, .slice none 0 0] 37 :: bx b_t4 (QB y77 v81) 37 :: bx b_b [.bool b_0, v_b_1] 37 :: bx b_a [.bool a_0, v_a_1] 37 :: L) rfl <| wS (Qa y62 v66) sz37 rfl rfl rfl rfl rfl (Q7 h67) .h3 u2 <| Qb ?_
    obtain rfl := sj he
    refine Qn fn_65 rs_65 (.box (v := (Qa y77 v81)) rfl ty37 rfl rfl .h4 rfl (.box (v := (Qa y62 v66)) rfl ty37 rfl rfl .h3 rfl .nil)) <| ⟨⟨[_, _, _, _, _, _, _], rfl⟩, hle.trans (((((((e28.trans e44).trans e48).trans e59).trans e65).trans e76).trans e80).trans e84), ⟨v81, v66, rfl, (h82.mono e84), (h67.mono ((e76.trans e80).trans e84))⟩⟩
   ·
    refine QF rfl (Bool.eq_false_iff.2 c68) <| bK he fun y85 hy86 he => Xy (p := 2) (tl := [2, 3]) [[], []] [some 74, some 75] (fctF (.is (Qa y36 v40) :: .of (Qv.out y85) (Qv.out_mono _) :: [])) (fun m_ => bx b51 (QB y62 v66) 37 :: bx b42 (QB y36 v40) 37 :: none :: bx b_t5 [.bool false, .slice none 0 0] 37 :: bx b_t4 [.bool false, .slice none 0 0] 37 :: bx b_b [.bool b_0, v_b_1] 37 :: bx b_a [.bool a_0, v_a_1] 37 :: L) (fun _ => none) mixed (by kernel_rfl) (by kernel_rfl) rfl (Xn (by kernel_rfl)) ⟨(fun H' m_ hH hm_ hu_ => dn <| s_d (m_ 0) rfl (QG (v := (Qa y36 v40)) ty37 rfl .h1 rfl rfl rfl rfl) (by exact rfl) rfl), (fun H' m_ hH hm_ hu_ => dn <| s_k (m_ 1) rfl (Qm co16 (vs := [.int .i64 1]) rfl (Qv.calls k hy86)) rfl (by rintro v_ H_ _ ⟨rfl, e_, h_⟩; exact ⟨rfl, e_, h_⟩)), trivial⟩ ?_
    intro H91 e92
    rintro _ _ rfl _ _ ⟨v89, rfl, h90⟩
    refine bK he fun y93 hy94 he => w_a rfl (Qm co14 (vs := [(Qa y36 v40), (Qa y85 v89)]) rfl (Yy.calls k (a := y36) (b := y85) hy94 (h41.mono (((e48.trans e59).trans e65).trans e92)) h90)) ?_
    rintro _ H95 _ ⟨rfl, e96, v97, rfl, h98⟩
    refine wS (Qa y93 v97) sz37 rfl rfl rfl rfl rfl (Q7 h98) .h1 u2 <| wE <| Xy (p := 3) (tl := [3]) [[], [], [(0, some 77)]] [some 77, some 78, none] (fctF (.is (Qa y93 v97) :: .is (Qa y62 v66) :: .itm (fun H itq_ => itq_ = bx b_t4 (QB y93 v97) 37) (by rintro _ _ _ hle rfl; exact rfl) :: [])) (fun m_ => bx b51 (QB y62 v66) 37 :: bx b42 (QB y93 v97) 37 :: none :: bx b_t5 [.bool false, .slice none 0 0] 37 :: m_ 2 :: bx b_b [.bool b_0, v_b_1] 37 :: bx b_a [.bool a_0, v_a_1] 37 :: L) (fun i_ => if i_ = 2 then bx b_t4 [.bool false, .slice none 0 0] 37 else none) mixed (by kernel_rfl) (by kernel_rfl) rfl (Xn (by kernel_rfl)) ⟨(fun H' m_ hH hm_ hu_ => dn <| s_d (m_ 0) rfl (QG (v := (Qa y93 v97)) ty37 rfl .h1 rfl rfl rfl rfl) (by exact rfl) rfl), (fun H' m_ hH hm_ hu_ => dn <| s_d (m_ 1) rfl (QG (v := (Qa y62 v66)) ty37 rfl .here rfl rfl rfl rfl) (by exact rfl) rfl), (by rintro H' m_ hH hm_ hu_ _ rfl; exact dn <| Zu (bx b_t4 (QB y93 v97) 37) hm_ rfl (YJ (v := (Qa y93 v97)) sz37 rfl rfl rfl rfl (oc rfl (oc (h98.one) oz)) .h4 u2) rfl (by exact ⟨rfl, rfl⟩)), trivial⟩ ?_
    intro H99 e100
    rintro _ _ rfl _ _ rfl _ _ ⟨rfl, rfl⟩
    refine w_it (L' := bx b51 (QB y62 v66) 37 :: bx b42 (QB y93 v97) 37 :: none :: bx b_t5 [.bool false, .slice none 0 0] 37 :: bx b_t4 (QB y93 v97) 37 :: bx b_b [.bool b_0, v_b_1] 37 :: bx b_a [.bool a_0, v_a_1] 37 :: L) rfl <| wS (Qa y62 v66) sz37 rfl rfl rfl rfl rfl (Q7 h67) .h3 u2 <| Qb ?_
    obtain rfl := sj he
    refine Qn fn_65 rs_65 (.box (v := (Qa y93 v97)) rfl ty37 rfl rfl .h4 rfl (.box (v := (Qa y62 v66)) rfl ty37 rfl rfl .h3 rfl .nil)) <| ⟨⟨[_, _, _, _, _, _, _], rfl⟩, hle.trans (((((((e28.trans e44).trans e48).trans e59).trans e65).trans e92).trans e96).trans e100), ⟨v97, v66, rfl, (h98.mono e100), (h67.mono ((e92.trans e96).trans e100))⟩⟩
  ·
   refine QF rfl (Bool.eq_false_iff.2 c55) <| QH <| Q0 <| Xy (p := 3) (tl := [3]) [[], [], [(0, some 77)]] [some 77, some 78, none] (fctF (.is (Qa y36 v40) :: .is (Qa y45 v49) :: .itm (fun H itq_ => itq_ = bx b_t4 (QB y36 v40) 37) (by rintro _ _ _ hle rfl; exact rfl) :: [])) (fun m_ => bx b51 (QB y45 v49) 37 :: bx b42 (QB y36 v40) 37 :: none :: bx b_t5 [.bool false, .slice none 0 0] 37 :: m_ 2 :: bx b_b [.bool b_0, v_b_1] 37 :: bx b_a [.bool a_0, v_a_1] 37 :: L) (fun i_ => if i_ = 2 then bx b_t4 [.bool false, .slice none 0 0] 37 else none) mixed (by kernel_rfl) (by kernel_rfl) rfl (Xn (by kernel_rfl)) ⟨(fun H' m_ hH hm_ hu_ => dn <| s_d (m_ 0) rfl (QG (v := (Qa y36 v40)) ty37 rfl .h1 rfl rfl rfl rfl) (by exact rfl) rfl), (fun H' m_ hH hm_ hu_ => dn <| s_d (m_ 1) rfl (QG (v := (Qa y45 v49)) ty37 rfl .here rfl rfl rfl rfl) (by exact rfl) rfl), (by rintro H' m_ hH hm_ hu_ _ rfl; exact dn <| Zu (bx b_t4 (QB y36 v40) 37) hm_ rfl (YJ (v := (Qa y36 v40)) sz37 rfl rfl rfl rfl (oc rfl (oc (h41.one) oz)) .h4 u2) rfl (by exact ⟨rfl, rfl⟩)), trivial⟩ ?_
   intro H101 e102
   rintro _ _ rfl _ _ rfl _ _ ⟨rfl, rfl⟩
   refine w_it (L' := bx b51 (QB y45 v49) 37 :: bx b42 (QB y36 v40) 37 :: none :: bx b_t5 [.bool false, .slice none 0 0] 37 :: bx b_t4 (QB y36 v40) 37 :: bx b_b [.bool b_0, v_b_1] 37 :: bx b_a [.bool a_0, v_a_1] 37 :: L) rfl <| wS (Qa y45 v49) sz37 rfl rfl rfl rfl rfl (Q7 h50) .h3 u2 <| Qb ?_
   obtain rfl := sj he
   refine Qn fn_65 rs_65 (.box (v := (Qa y36 v40)) rfl ty37 rfl rfl .h4 rfl (.box (v := (Qa y45 v49)) rfl ty37 rfl rfl .h3 rfl .nil)) <| ⟨⟨[_, _, _, _, _, _, _], rfl⟩, hle.trans (((e28.trans e44).trans e48).trans e102), ⟨v40, v49, rfl, (h41.mono (e48.trans e102)), (h50.mono e102)⟩⟩
theorem Qu.b1_ok {k : Nat} {h : Qu.Hs} (hh : Qu.OK h) {H0 H : Hp} {L : Items} {r : Qf × Qf} {jk_ : Nat → Value} {a_0 : Bool} {a_1 : List Int} {b_0 : Bool} {b_1 rest q : List Int} {i : Int} {v_a_1 v_b_1 v_rest v_q : Value} {i_q : Item'} {b_a b_b b_t4 b_t5 : Nat} (hle : H0.le H) (he : Qu.b1 k h a_0 a_1 b_0 b_1 rest q i = some r) (h_a_1 : Ro kI64 H v_a_1 a_1) (h_b_1 : Ro kI64 H v_b_1 b_1) (h_rest : Ro kI64 H v_rest rest) (h_q : Sl kI64 H 3 i_q v_q q) : Wp Tryz.prog 65 79 Qu.Kl1 (upd (upd (upd (upd (upd (upd (upd jk_ 2 (pt b_a)) 3 (pt b_b)) 4 (pt b_t4)) 5 (pt b_t5)) 6 (v_rest)) 7 (v_q)) 8 (.int .i64 i)) H (i_q :: bx b_t5 [.bool false, .slice none 0 0] 37 :: bx b_t4 [.bool false, .slice none 0 0] 37 :: bx b_b [.bool b_0, v_b_1] 37 :: bx b_a [.bool a_0, v_a_1] 37 :: L) (Qu.R H0 L r) := by
 unfold Qu.b1 at he
 unfold Qu.Kl1
 refine Q0 <| wR rfl <| wM v_rest rfl rfl <| w_d rfl (Q9 (o' := 1) Tryz.underlying37 rfl sz35 rfl rfl rfl) <| wL v_b_1 ty35 rfl rfl .h3 rfl rfl <| bK he fun y103 hy104 he => w_d rfl (Xx (Qm co69 (vs := [v_rest, v_b_1]) rfl (QR.calls k hy104 h_rest.src h_b_1.src))) <| w_d rfl (Zp (b := y103) rfl) <| Qb ?_
 rcases its he with ⟨c107, he⟩ | ⟨c107, he⟩
 ·
  refine QE rfl c107 <| QH <| Xa <| wR rfl <| wM v_rest rfl rfl <| w_d rfl (Q9 (o' := 1) Tryz.underlying37 rfl sz35 rfl rfl rfl) <| wL v_b_1 ty35 rfl rfl .h3 rfl rfl <| bK he fun y108 hy109 he => w_a rfl (Qm co70 (vs := [v_rest, v_b_1]) rfl (Qj.calls k hy109 h_rest.src h_b_1.src)) ?_
  rintro v112 H110 _ ⟨rfl, e111, h113⟩
  refine wA v112 rfl rfl <| Qb <| QU rfl <| wM v_q rfl rfl <| wM (.int .i64 i) rfl rfl <| rK he fun c114 he => w_d rfl (YK (sz := 1) Tryz.underlying35 sz3 rfl (h_q.mono e111).shp rfl c114) <| w_d rfl (XP ty3 rfl ((h_q.mono e111).src .here) c114) <| w_d rfl (XR (c := w64 ((rd q i) + 1)) rfl rfl rfl) <| rK he fun c115 he => w_d rfl (YK (sz := 1) Tryz.underlying35 sz3 rfl (h_q.mono e111).shp rfl c115) <| w_a0 rfl (Y1 (kd := kI64) (v := .int .i64 (w64 ((rd q i) + 1))) (F := fun z_ => z_ :: bx b_t5 [.bool false, .slice none 0 0] 37 :: bx b_t4 [.bool false, .slice none 0 0] 37 :: bx b_b [.bool b_0, v_b_1] 37 :: bx b_a [.bool a_0, v_a_1] 37 :: L) sz3 rfl rfl rfl rfl (h_q.mono e111) c115 (fun _ => .here)) ?_
  rintro _ _ _ ⟨i116, rfl, rfl, rfl, h117⟩
  refine Qb <| XC <| XL <| w_sl 2 (pt b_a) rfl <| w_sl 3 (pt b_b) rfl <| w_sl 4 (pt b_t4) rfl <| w_sl 5 (pt b_t5) rfl <| w_sl 6 (v112) rfl <| w_sl 7 (v_q) rfl <| w_sl 8 (.int .i64 i) rfl <| hh.l1 (hle.trans e111) he (h_a_1.mono e111) (h_b_1.mono e111) h113 h117
 ·
  refine QF rfl (Bool.eq_false_iff.2 c107) <| X8 rfl <| XC <| QU rfl <| wM (.int .i64 i) rfl rfl <| w_d rfl (YD (c := w64 (i - 1)) rfl rfl rfl) <| wA (.int .i64 (w64 (i - 1))) rfl rfl <| Qb <| XL <| w_sl 2 (pt b_a) rfl <| w_sl 3 (pt b_b) rfl <| w_sl 4 (pt b_t4) rfl ?_
  refine w_sl 5 (pt b_t5) rfl <| w_sl 6 (v_rest) rfl <| w_sl 7 (v_q) rfl <| w_sl 8 (.int .i64 (w64 (i - 1))) rfl <| hh.l0 hle he h_a_1 h_b_1 h_rest h_q
theorem Qu.ok : ∀ k, Qu.OK (Qu.hs k)
 | 0 => ⟨(by intros; exact nomatch (show none = some _ from by assumption)), (by intros; exact nomatch (show none = some _ from by assumption))⟩
 | k + 1 => ⟨Qu.b0_ok (k := k) (Qu.ok k), Qu.b1_ok (k := k) (Qu.ok k)⟩
theorem Qu.calls (k : Nat) {H : Hp} {L : Items} {a b : Qf} {v0_a v1_b : Value} {r : Qf × Qf} (he : Qu.f k a b = some r) (h0_a : Ro kI64 H v0_a a.f_D) (h1_b : Ro kI64 H v1_b b.f_D) : Ct Tryz.prog 65 ⟨[(Qa a v0_a), (Qa b v1_b)]⟩ H L (cR H L (Qu.out r)) := by
 refine XO (O := Qu.out r) ?_
 have hle : H.le H := .refl _
 have hh := Qu.ok k
 unfold Qu.f at he
 refine QV (args := [_, _]) fn_65 rfl nt_65 rfl <| wR rfl <| wB (Qa a v0_a) rfl rfl rfl <| fun b1 => wB (Qa b v1_b) rfl rfl rfl <| fun b2 => wN zr37 rfl rfl fun b3 => wN zr37 rfl rfl fun b4 => wQ rfl <| wA (.slice none 0 0) rfl rfl <| Qb ?_
 refine wR rfl <| w_d rfl (Q9 (o' := 1) Tryz.underlying37 rfl sz35 rfl rfl rfl) <| wL v0_a ty35 rfl rfl .h3 rfl rfl <| w_d rfl (Xr Tryz.underlying35 rfl h0_a.src) <| rK he fun c5 he => w_a rfl (o_make' (kd := kI64) (z0 := 0) Tryz.underlying35 ti3 (zp3 _) rfl rfl (by omega) (by omega) (by omega)) ?_
 rintro v6 _ _ ⟨i7, rfl, rfl, h8⟩
 refine wA v6 rfl rfl <| wE <| wR rfl <| w_d rfl (Q9 (o' := 1) Tryz.underlying37 rfl sz35 rfl rfl rfl) <| wL v0_a ty35 rfl rfl .h4 rfl rfl <| w_d rfl (Xr Tryz.underlying35 rfl h0_a.src) <| w_d rfl (YD (c := w64 ((a.f_D.length : Int) - 1)) rfl rfl rfl) <| wA (.int .i64 (w64 ((a.f_D.length : Int) - 1))) rfl rfl <| Qb <| Xa ?_
 refine X9 <| w_sl 2 (pt b1) rfl <| w_sl 3 (pt b2) rfl <| w_sl 4 (pt b3) rfl <| w_sl 5 (pt b4) rfl <| w_sl 6 (.slice none 0 0) rfl <| w_sl 7 (v6) rfl <| w_sl 8 (.int .i64 (w64 ((a.f_D.length : Int) - 1))) rfl <| hh.l0 hle he h0_a h1_b (Xg _ _) h8
noncomputable def QC.C : Code := (Tryz.f13.body).getD .skip
def QC.out (r : Qi) (H : Hp) (v : Value) : Prop := ∃ v0 v1, v = (Ql r v0 v1) ∧ Ro kI64 H v0 r.f_N.f_D ∧ Ro kI64 H v1 r.f_D.f_D
abbrev QC.R (H0 : Hp) (L : Items) (r : Qi) := fR H0 L (QC.out r)
structure QC.Hs where
 l0 : Bool → (List Int) → Bool → (List Int) → Bool → (List Int) → Bool → (List Int) → Option Qi
noncomputable def QC.j1 (k : Nat) (h : QC.Hs) (n_0 : Bool) (n_1 : List Int) (d_0 : Bool) (d_1 : List Int) : Option Qi := (Ya.f k ⟨n_0, n_1⟩).bind fun y23 => h.l0 n_0 n_1 d_0 d_1 y23.f_Neg y23.f_D d_0 d_1
noncomputable def QC.b0 (k : Nat) (h : QC.Hs) (n_0 : Bool) (n_1 : List Int) (d_0 : Bool) (d_1 : List Int) (a_0 : Bool) (a_1 : List Int) (b_0 : Bool) (b_1 : List Int) : Option Qi := (XX.f k ⟨b_0, b_1⟩).bind fun y37 => if y37 = 0 then ((Qu.f k ⟨n_0, n_1⟩ ⟨a_0, a_1⟩).bind fun y42 => (Qu.f k ⟨d_0, d_1⟩ ⟨a_0, a_1⟩).bind fun y52 => some (⟨y42.1, y52.1⟩)) else ((Qu.f k ⟨a_0, a_1⟩ ⟨b_0, b_1⟩).bind fun y62 => h.l0 n_0 n_1 d_0 d_1 b_0 b_1 y62.2.f_Neg y62.2.f_D)
noncomputable def QC.hs : Nat → QC.Hs
 | 0 => ⟨fun _ _ _ _ _ _ _ _ => none⟩
 | k + 1 => ⟨fun x0 x1 x2 x3 x4 x5 x6 x7 => QC.b0 k (QC.hs k) x0 x1 x2 x3 x4 x5 x6 x7⟩
noncomputable def QC.f (k : Nat) (n d : Qf) : Option Qi := (fun h : QC.Hs => (XX.f k d).bind fun y4 => if y4 < 0 then ((XM.f k n).bind fun y9 => (XM.f k d).bind fun y17 => QC.j1 k h y9.f_Neg y9.f_D y17.f_Neg y17.f_D) else (QC.j1 k h n.f_Neg n.f_D d.f_Neg d.f_D)) (QC.hs k)
noncomputable def QC.Kj1 : List Item := .code (seqR (seqR QC.C)) :: []
noncomputable def QC.Kl0 : List Item := .code (lopB (blkB (seqL (seqR (seqR (seqR QC.C)))))) :: .inLoop (lopB (blkB (seqL (seqR (seqR (seqR QC.C)))))) :: .inBlock 0 :: .code (seqR (seqR (seqR (seqR QC.C)))) :: []
structure QC.OK (h : QC.Hs) : Prop where
 l0 : ∀ {H0 H : Hp} {L : Items} {r : Qi} {jk_ : Nat → Value} {n_0 : Bool} {n_1 : List Int} {d_0 : Bool} {d_1 : List Int} {a_0 : Bool} {a_1 : List Int} {b_0 : Bool} {b_1 : List Int} {v_n_1 : Value} {v_d_1 : Value} {v_a_1 : Value} {v_b_1 : Value} {b_n : Nat} {b_d : Nat} {b_t4 : Nat} {b_a : Nat} {b_b : Nat} (_ : H0.le H) (_he : h.l0 n_0 n_1 d_0 d_1 a_0 a_1 b_0 b_1 = some r) (_h_n_1 : Ro kI64 H v_n_1 n_1) (_h_d_1 : Ro kI64 H v_d_1 d_1) (_h_a_1 : Ro kI64 H v_a_1 a_1) (_h_b_1 : Ro kI64 H v_b_1 b_1), Wp Tryz.prog 13 49 QC.Kl0 (upd (upd (upd (upd (upd jk_ 2 (pt b_n)) 3 (pt b_d)) 4 (pt b_t4)) 5 (pt b_a)) 6 (pt b_b)) H (bx b_a [.bool a_0, v_a_1] 37 :: bx b_b [.bool b_0, v_b_1] 37 :: bx b_t4 z0c 40 :: bx b_d [.bool d_0, v_d_1] 37 :: bx b_n [.bool n_0, v_n_1] 37 :: L) (QC.R H0 L r)
theorem QC.j1_ok {k : Nat} {h : QC.Hs} (hh : QC.OK h) {H0 H : Hp} {L : Items} {r : Qi} {jk_ : Nat → Value} {n_0 : Bool} {n_1 : List Int} {d_0 : Bool} {d_1 : List Int} {v_n_1 v_d_1 : Value} {b_n b_d b_t4 : Nat} (hle : H0.le H) (he : QC.j1 k h n_0 n_1 d_0 d_1 = some r) (h_n_1 : Ro kI64 H v_n_1 n_1) (h_d_1 : Ro kI64 H v_d_1 d_1) : Wp Tryz.prog 13 49 QC.Kj1 (upd (upd (upd jk_ 2 (pt b_n)) 3 (pt b_d)) 4 (pt b_t4)) H (bx b_t4 z0c 40 :: bx b_d [.bool d_0, v_d_1] 37 :: bx b_n [.bool n_0, v_n_1] 37 :: L) (QC.R H0 L r) := by
 unfold QC.j1 at he
 unfold QC.Kj1
 refine Q0 <| bK he fun y23 hy24 he => ?_
 refine Yx (Yx (?_))
 refine Xy (p := 6) (tl := [6]) [[], [(0, some 20)], [], [], [], [(1, some 21), (3, some 5)]] [some 20, some 21, some 22, some 5, some 6, none] (fctF (.is (.agg ⟨[.bool n_0, v_n_1]⟩) :: .of (Ya.out y23) (Ya.out_mono _) :: .is (.agg ⟨[.bool d_0, v_d_1]⟩) :: .box 37 [.bool false, .slice none 0 0] :: .box 37 [.bool false, .slice none 0 0] :: .st 3 (fun H bq_ itq_ => ∃ v31, itq_ = bx bq_ (QB y23 v31) 37 ∧ Ro kI64 H v31 y23.f_D) (by rintro _ _ _ _ hle ⟨v31, rfl, h32⟩; exact ⟨v31, rfl, h32.mono hle⟩) :: [])) (fun m_ => pk (m_ 5) (m_ 3) :: m_ 4 :: bx b_t4 z0c 40 :: bx b_d [.bool d_0, v_d_1] 37 :: bx b_n [.bool n_0, v_n_1] 37 :: L) (fun _ => none) mixed (by kernel_rfl) (by kernel_rfl) rfl (Xn (by kernel_rfl)) ⟨(fun H' m_ hH hm_ hu_ => dn <| s_d (m_ 0) rfl (QG (v := .agg ⟨[.bool n_0, v_n_1]⟩) ty37 rfl .h4 rfl rfl rfl rfl) (by exact rfl) rfl), (by rintro H' m_ hH hm_ hu_ _ rfl; exact dn <| s_k (m_ 1) rfl (Qm co64 (vs := [.agg ⟨[.bool n_0, v_n_1]⟩]) rfl (Ya.calls k (a := ⟨n_0, n_1⟩) hy24 (h_n_1.mono hH))) rfl (by rintro v_ H_ _ ⟨rfl, e_, h_⟩; exact ⟨rfl, e_, h_⟩)), (fun H' m_ hH hm_ hu_ => dn <| s_d (m_ 2) rfl (QG (v := .agg ⟨[.bool d_0, v_d_1]⟩) ty37 rfl .h3 rfl rfl rfl rfl) (by exact rfl) rfl), (fun H' m_ hH hm_ hu_ => dn <| YV hm_ rfl rfl (YI zr37 rfl) rfl (fun _ => (ZB (hu_ 5 (by kernel_rfl)))) (by exact fun b_ => ⟨b_, rfl, rfl⟩)), (fun H' m_ hH hm_ hu_ => dn <| YV hm_ rfl rfl (YI zr37 rfl) rfl (fun _ => .h1) (by exact fun b_ => ⟨b_, rfl, rfl⟩)), (by rintro H' m_ hH hm_ hu_ _ ⟨v27, rfl, h28⟩ _ ⟨b29, rfl, hb29_⟩; exact dn <| Y3 (Λ' := fun z_ => z_ :: m_ 4 :: bx b_t4 z0c 40 :: bx b_d [.bool d_0, v_d_1] 37 :: bx b_n [.bool n_0, v_n_1] 37 :: L) (bx b29 (QB y23 v27) 37) hm_ rfl hb29_ rfl (YJ (v := (Qa y23 v27)) sz37 rfl rfl rfl rfl (oc rfl (oc (h28.one) oz)) .here u2) rfl rfl (by exact ⟨rfl, v27, congrArg (fun b_ => (some (b_, Obj.cells ⟨(QB y23 v27)⟩ 37 (0, 0)) : Item')) (ZD hb29_).symm, h28⟩)), trivial⟩ ?_
 intro H35 e36
 rintro _ _ rfl _ _ ⟨v27, rfl, h28⟩ _ _ rfl _ _ ⟨b29, rfl, rfl⟩ _ _ ⟨b30, rfl, rfl⟩ _ i33 ⟨rfl, v31, h34, h32⟩
 replace h34 : i33 = bx b29 (QB y23 v31) 37 := h34
 subst h34
 refine w_it (L' := bx b29 (QB y23 v31) 37 :: bx b30 [.bool false, .slice none 0 0] 37 :: bx b_t4 z0c 40 :: bx b_d [.bool d_0, v_d_1] 37 :: bx b_n [.bool n_0, v_n_1] 37 :: L) rfl <| wS (.agg ⟨[.bool d_0, v_d_1]⟩) sz37 rfl rfl rfl rfl rfl (oc rfl (oc (h_d_1.one) oz)) .h1 u2 <| wE <| Xa <| X9 <| w_sl 2 (pt b_n) rfl <| w_sl 3 (pt b_d) rfl <| w_sl 4 (pt b_t4) rfl <| w_sl 5 (pt b29) rfl <| w_sl 6 (pt b30) rfl <| hh.l0 (hle.trans e36) he (h_n_1.mono e36) (h_d_1.mono e36) h32 (h_d_1.mono e36)
theorem QC.b0_ok {k : Nat} {h : QC.Hs} (hh : QC.OK h) {H0 H : Hp} {L : Items} {r : Qi} {jk_ : Nat → Value} {n_0 : Bool} {n_1 : List Int} {d_0 : Bool} {d_1 : List Int} {a_0 : Bool} {a_1 : List Int} {b_0 : Bool} {b_1 : List Int} {v_n_1 v_d_1 v_a_1 v_b_1 : Value} {b_n b_d b_t4 b_a b_b : Nat} (hle : H0.le H) (he : QC.b0 k h n_0 n_1 d_0 d_1 a_0 a_1 b_0 b_1 = some r) (h_n_1 : Ro kI64 H v_n_1 n_1) (h_d_1 : Ro kI64 H v_d_1 d_1) (h_a_1 : Ro kI64 H v_a_1 a_1) (h_b_1 : Ro kI64 H v_b_1 b_1) : Wp Tryz.prog 13 49 QC.Kl0 (upd (upd (upd (upd (upd jk_ 2 (pt b_n)) 3 (pt b_d)) 4 (pt b_t4)) 5 (pt b_a)) 6 (pt b_b)) H (bx b_a [.bool a_0, v_a_1] 37 :: bx b_b [.bool b_0, v_b_1] 37 :: bx b_t4 z0c 40 :: bx b_d [.bool d_0, v_d_1] 37 :: bx b_n [.bool n_0, v_n_1] 37 :: L) (QC.R H0 L r) := by
 unfold QC.b0 at he
 unfold QC.Kl0
 refine Q0 <| wR rfl <| wL (.agg ⟨[.bool b_0, v_b_1]⟩) ty37 rfl rfl .h1 rfl rfl <| bK he fun y37 hy38 he => w_d rfl (Xx (Qm co62 (vs := [.agg ⟨[.bool b_0, v_b_1]⟩]) rfl (XX.calls k (a := ⟨b_0, b_1⟩) hy38 h_b_1))) <| w_d rfl (Zs rfl rfl) <| Qb ?_
 rcases its he with ⟨c41, he⟩ | ⟨c41, he⟩
 ·
  refine QF rfl (nd_t c41) <| X8 rfl <| wR rfl <| wL (.agg ⟨[.bool n_0, v_n_1]⟩) ty37 rfl rfl .h4 rfl rfl <| wL (.agg ⟨[.bool a_0, v_a_1]⟩) ty37 rfl rfl .here rfl rfl <| bK he fun y42 hy43 he => w_a rfl (Qm co65 (vs := [.agg ⟨[.bool n_0, v_n_1]⟩, .agg ⟨[.bool a_0, v_a_1]⟩]) rfl (Qu.calls k (a := ⟨n_0, n_1⟩) (b := ⟨a_0, a_1⟩) hy43 h_n_1 h_a_1)) ?_
  rintro _ H44 _ ⟨rfl, e45, v46, v48, rfl, h47, h49⟩
  refine wM (.tuple ⟨[(Qa y42.1 v46), (Qa y42.2 v48)]⟩) rfl rfl <| w_d rfl (Q6 rfl rfl) <| w_d rfl (Q6 rfl rfl) <| wN zr37 rfl rfl fun b50 => wN zr37 rfl rfl fun b51 => wS (Qa y42.1 v46) sz37 rfl rfl rfl rfl rfl (Q7 h47) .h1 u2 <| wS (Qa y42.2 v48) sz37 rfl rfl rfl rfl rfl (Q7 h49) .here u2 <| wQ rfl <| w_d rfl (QG (v := .agg ⟨[.bool d_0, v_d_1]⟩) ty37 rfl .h5 rfl rfl rfl rfl) <| wL (.agg ⟨[.bool a_0, v_a_1]⟩) ty37 rfl rfl .h2 rfl rfl ?_
  refine bK he fun y52 hy53 he => w_a rfl (Qm co65 (vs := [.agg ⟨[.bool d_0, v_d_1]⟩, .agg ⟨[.bool a_0, v_a_1]⟩]) rfl (Qu.calls k (a := ⟨d_0, d_1⟩) (b := ⟨a_0, a_1⟩) hy53 (h_d_1.mono e45) (h_a_1.mono e45))) ?_
  rintro _ H54 _ ⟨rfl, e55, v56, v58, rfl, h57, h59⟩
  refine wM (.tuple ⟨[(Qa y52.1 v56), (Qa y52.2 v58)]⟩) rfl rfl <| w_d rfl (Q6 rfl rfl) <| w_d rfl (Q6 rfl rfl) <| wN zr37 rfl rfl fun b60 => wN zr37 rfl rfl fun b61 => wS (Qa y52.1 v56) sz37 rfl rfl rfl rfl rfl (Q7 h57) .h1 u2 <| wS (Qa y52.2 v58) sz37 rfl rfl rfl rfl rfl (Q7 h59) .here u2 <| wQ rfl <| wL (Qa y42.1 v46) ty37 rfl rfl .h3 rfl rfl <| wL (Qa y52.1 v56) ty37 rfl rfl .h1 rfl rfl ?_
  refine w_d rfl (XF (cs' := [.bool y42.1.f_Neg, v46, .bool y52.1.f_Neg, v56]) Tryz.underlying40 zr40 rfl (by kernel_rfl) (parts := [(0, (Qa y42.1 v46)), (1, (Qa y52.1 v56))]) rfl (.cons (YF rfl sz37 rfl) rfl rfl u2 (.cons (YF rfl sz37 rfl) rfl rfl (.there (.there u2)) .nil))) <| wS (.agg ⟨[.bool y42.1.f_Neg, v46, .bool y52.1.f_Neg, v56]⟩) sz40 rfl rfl rfl rfl rfl (oc rfl (oc (h47.one) (oc rfl (oc (h57.one) oz)))) .h6 u4 <| Qb ?_
  obtain rfl := sj he
  refine Qn fn_13 rs_13 (.box (v := .agg ⟨[.bool y42.1.f_Neg, v46, .bool y52.1.f_Neg, v56]⟩) rfl ty40 rfl rfl .h6 rfl .nil) <| ⟨⟨[_, _, _, _, _, _, _, _, _], rfl⟩, hle.trans (e45.trans e55), ⟨v46, v56, rfl, (h47.mono e55), h57⟩⟩
 ·
  refine QE rfl (nd_f c41) <| QH <| Xa <| wR rfl <| wL (.agg ⟨[.bool a_0, v_a_1]⟩) ty37 rfl rfl .here rfl rfl <| wL (.agg ⟨[.bool b_0, v_b_1]⟩) ty37 rfl rfl .h1 rfl rfl <| bK he fun y62 hy63 he => w_a rfl (Qm co65 (vs := [.agg ⟨[.bool a_0, v_a_1]⟩, .agg ⟨[.bool b_0, v_b_1]⟩]) rfl (Qu.calls k (a := ⟨a_0, a_1⟩) (b := ⟨b_0, b_1⟩) hy63 h_a_1 h_b_1)) ?_
  rintro _ H64 _ ⟨rfl, e65, v66, v68, rfl, h67, h69⟩
  refine wM (.tuple ⟨[(Qa y62.1 v66), (Qa y62.2 v68)]⟩) rfl rfl <| w_d rfl (Q6 rfl rfl) <| w_d rfl (Q6 rfl rfl) <| wN zr37 rfl rfl fun b70 => wN zr37 rfl rfl fun b71 => wS (Qa y62.1 v66) sz37 rfl rfl rfl rfl rfl (Q7 h67) .h1 u2 <| wS (Qa y62.2 v68) sz37 rfl rfl rfl rfl rfl (Q7 h69) .here u2 <| Qb <| Xy (p := 3) (tl := [3]) [[], [], [(0, some 32)]] [some 32, some 33, none] (fctF (.is (.agg ⟨[.bool b_0, v_b_1]⟩) :: .is (Qa y62.2 v68) :: .itm (fun H itq_ => itq_ = bx b_a [.bool b_0, v_b_1] 37) (by rintro _ _ _ hle rfl; exact rfl) :: [])) (fun m_ => bx b71 (QB y62.2 v68) 37 :: bx b70 (QB y62.1 v66) 37 :: m_ 2 :: bx b_b [.bool b_0, v_b_1] 37 :: bx b_t4 z0c 40 :: bx b_d [.bool d_0, v_d_1] 37 :: bx b_n [.bool n_0, v_n_1] 37 :: L) (fun i_ => if i_ = 2 then bx b_a [.bool a_0, v_a_1] 37 else none) mixed (by kernel_rfl) (by kernel_rfl) rfl (Xn (by kernel_rfl)) ⟨(fun H' m_ hH hm_ hu_ => dn <| s_d (m_ 0) rfl (QG (v := .agg ⟨[.bool b_0, v_b_1]⟩) ty37 rfl .h3 rfl rfl rfl rfl) (by exact rfl) rfl), (fun H' m_ hH hm_ hu_ => dn <| s_d (m_ 1) rfl (QG (v := (Qa y62.2 v68)) ty37 rfl .here rfl rfl rfl rfl) (by exact rfl) rfl), (by rintro H' m_ hH hm_ hu_ _ rfl; exact dn <| Zu (bx b_a [.bool b_0, v_b_1] 37) hm_ rfl (YJ (v := .agg ⟨[.bool b_0, v_b_1]⟩) sz37 rfl rfl rfl rfl (oc rfl (oc (h_b_1.one) oz)) .h2 u2) rfl (by exact ⟨rfl, rfl⟩)), trivial⟩ ?_
  intro H72 e73
  rintro _ _ rfl _ _ rfl _ _ ⟨rfl, rfl⟩
  refine w_it (L' := bx b71 (QB y62.2 v68) 37 :: bx b70 (QB y62.1 v66) 37 :: bx b_a [.bool b_0, v_b_1] 37 :: bx b_b [.bool b_0, v_b_1] 37 :: bx b_t4 z0c 40 :: bx b_d [.bool d_0, v_d_1] 37 :: bx b_n [.bool n_0, v_n_1] 37 :: L) rfl <| wS (Qa y62.2 v68) sz37 rfl rfl rfl rfl rfl (Q7 h69) .h3 u2 <| Qb <| XC <| XL <| YB .h1 <| YB .here <| w_sl 2 (pt b_n) rfl <| w_sl 3 (pt b_d) rfl <| w_sl 4 (pt b_t4) rfl <| w_sl 5 (pt b_a) rfl <| w_sl 6 (pt b_b) rfl <| hh.l0 (hle.trans (e65.trans e73)) he (h_n_1.mono (e65.trans e73)) (h_d_1.mono (e65.trans e73)) (h_b_1.mono (e65.trans e73)) (h69.mono e73)
theorem QC.ok : ∀ k, QC.OK (QC.hs k)
 | 0 => ⟨(by intros; exact nomatch (show none = some _ from by assumption))⟩
 | k + 1 => ⟨QC.b0_ok (k := k) (QC.ok k)⟩
theorem QC.calls (k : Nat) {H : Hp} {L : Items} {n d : Qf} {v0_n v1_d : Value} {r : Qi} (he : QC.f k n d = some r) (h0_n : Ro kI64 H v0_n n.f_D) (h1_d : Ro kI64 H v1_d d.f_D) : Ct Tryz.prog 13 ⟨[(Qa n v0_n), (Qa d v1_d)]⟩ H L (cR H L (QC.out r)) := by
 refine XO (O := QC.out r) ?_
 have hle : H.le H := .refl _
 have hh := QC.ok k
 unfold QC.f at he
 refine QV (args := [_, _]) fn_13 rfl nt_13 rfl <| wR rfl <| wB (Qa n v0_n) rfl rfl rfl <| fun b1 => wB (Qa d v1_d) rfl rfl rfl <| fun b2 => wN zr40 rfl rfl fun b3 => wE <| wR rfl <| wL (Qa d v1_d) ty37 rfl rfl .h1 rfl rfl <| bK he fun y4 hy5 he => ?_
 refine w_d rfl (Xx (Qm co62 (vs := [(Qa d v1_d)]) rfl (XX.calls k (a := d) hy5 h1_d))) <| w_d rfl (XY rfl rfl) <| Qb ?_
 rcases its he with ⟨c8, he⟩ | ⟨c8, he⟩
 ·
  refine QE rfl (dt c8) <| bK he fun y9 hy10 he => Xy (p := 3) (tl := [3, 4, 5]) [[], [(0, some 16)], []] [some 16, some 17, some 18] (fctF (.is (Qa n v0_n) :: .of (XM.out y9) (XM.out_mono _) :: .is (Qa d v1_d) :: [])) (fun m_ => bx b3 z0c 40 :: bx b2 (QB d v1_d) 37 :: bx b1 (QB n v0_n) 37 :: L) (fun _ => none) mixed (by kernel_rfl) (by kernel_rfl) rfl (Xn (by kernel_rfl)) ⟨(fun H' m_ hH hm_ hu_ => dn <| s_d (m_ 0) rfl (QG (v := (Qa n v0_n)) ty37 rfl .h2 rfl rfl rfl rfl) (by exact rfl) rfl), (by rintro H' m_ hH hm_ hu_ _ rfl; exact dn <| s_k (m_ 1) rfl (Qm co63 (vs := [(Qa n v0_n)]) rfl (XM.calls k (a := n) hy10 (h0_n.mono hH))) rfl (by rintro v_ H_ _ ⟨rfl, e_, h_⟩; exact ⟨rfl, e_, h_⟩)), (fun H' m_ hH hm_ hu_ => dn <| s_d (m_ 2) rfl (QG (v := (Qa d v1_d)) ty37 rfl .h1 rfl rfl rfl rfl) (by exact rfl) rfl), trivial⟩ ?_
  intro H15 e16
  rintro _ _ rfl _ _ ⟨v13, rfl, h14⟩ _ _ rfl
  refine bK he fun y17 hy18 he => w_a rfl (Qm co63 (vs := [(Qa d v1_d)]) rfl (XM.calls k (a := d) hy18 (h1_d.mono e16))) ?_
  rintro _ H19 _ ⟨rfl, e20, v21, rfl, h22⟩
  refine wS (Qa y9 v13) sz37 rfl rfl rfl rfl rfl (Q7 h14) .h2 u2 <| wS (Qa y17 v21) sz37 rfl rfl rfl rfl rfl (Q7 h22) .h1 u2 <| Qb <| w_sl 2 (pt b1) rfl <| w_sl 3 (pt b2) rfl <| w_sl 4 (pt b3) rfl <| QC.j1_ok (k := k) hh (hle.trans (e16.trans e20)) he (h14.mono e20) h22
 ·
  refine QF rfl (df c8) <| QH <| w_sl 2 (pt b1) rfl <| w_sl 3 (pt b2) rfl <| w_sl 4 (pt b3) rfl <| QC.j1_ok (k := k) hh hle he h0_n h1_d
noncomputable def XB.C : Code := (Tryz.f43.body).getD .skip
def XB.out (r : Qi) (H : Hp) (v : Value) : Prop := ∃ v0 v1, v = (Ql r v0 v1) ∧ Ro kI64 H v0 r.f_N.f_D ∧ Ro kI64 H v1 r.f_D.f_D
theorem XB.out_mono (r : Qi) {H H' : Hp} {v : Value} (hle : H.le H') (h : XB.out r H v) : XB.out r H' v := by
 obtain ⟨v0, v1, rfl, h0, h1⟩ := h; exact ⟨v0, v1, rfl, h0.mono hle, h1.mono hle⟩
noncomputable def XB.f (k : Nat) (n : Int) : Option Qi := (Qv.f k n).bind fun y2 => (Qr.f k 20).bind fun y8 => (QC.f k y2 y8).bind fun y14 => some (y14)
theorem XB.calls (k : Nat) {H : Hp} {L : Items} {n : Int} {r : Qi} (he : XB.f k n = some r) : Ct Tryz.prog 43 ⟨[.int .i64 n]⟩ H L (cR H L (XB.out r)) := by
 refine XO (O := XB.out r) ?_
 have hle : H.le H := .refl _
 unfold XB.f at he
 refine QV (args := [_]) fn_43 rfl nt_43 rfl <| wR rfl <| wN zr40 rfl rfl fun b1 => wQ rfl <| wM (.int .i64 n) rfl rfl <| bK he fun y2 hy3 he => w_a rfl (Qm co16 (vs := [.int .i64 n]) rfl (Qv.calls k hy3)) ?_
 rintro _ H4 _ ⟨rfl, e5, v6, rfl, h7⟩
 refine bK he fun y8 hy9 he => w_a rfl (Qm co12 (vs := [.int .i64 20]) rfl (Qr.calls k hy9)) ?_
 rintro _ H10 _ ⟨rfl, e11, v12, rfl, h13⟩
 refine bK he fun y14 hy15 he => w_a rfl (Qm co13 (vs := [(Qa y2 v6), (Qa y8 v12)]) rfl (QC.calls k (n := y2) (d := y8) hy15 (h7.mono e11) h13)) ?_
 rintro _ H16 _ ⟨rfl, e17, v18, v20, rfl, h19, h21⟩
 refine wS (Ql y14 v18 v20) sz40 rfl rfl rfl rfl rfl (Yl h19 h21) .here u4 <| Qb ?_
 obtain rfl := sj he
 refine Qn fn_43 rs_43 (.box (v := (Ql y14 v18 v20)) rfl ty40 rfl rfl .here rfl .nil) <| ⟨⟨[_], rfl⟩, hle.trans ((e5.trans e11).trans e17), ⟨v18, v20, rfl, h19, h21⟩⟩
noncomputable def Qq.C : Code := (Tryz.f99.body).getD .skip
def Qq.out (r : ByteArray) (H : Hp) (v : Value) : Prop := v = .string r
abbrev Qq.R (H0 : Hp) (L : Items) (r : ByteArray) := fR H0 L (Qq.out r)
structure Qq.Hs where
 l0 : Bool → (List Int) → ByteArray → ByteArray → Int → Option ByteArray
noncomputable def Qq.j1 (k : Nat) (h : Qq.Hs) (a_0 : Bool) (a_1 : List Int) (t2 s : ByteArray) : Option ByteArray := if (a_1.length : Int) = 0 then (some (str_2)) else (h.l0 a_0 a_1 t2 s (w64 ((a_1.length : Int) - 1)))
noncomputable def Qq.b0 (k : Nat) (h : Qq.Hs) (a_0 : Bool) (a_1 : List Int) (t2 s : ByteArray) (i : Int) : Option ByteArray := if 0 ≤ i then (if (0 : Int) ≤ i ∧ i < (a_1.length : Int) then (if (0 : Int) ≤ i ∧ i < (a_1.length : Int) then (if (0 : Int) ≤ rd a_1 i ∧ (rd a_1 i : Int) ≤ w64 ((rd a_1 i) + 1) ∧ w64 ((rd a_1 i) + 1) ≤ (str_3.size : Int) then (if (s.size + (scut str_3 (rd a_1 i) (w64 ((rd a_1 i) + 1))).size : Int) ≤ 9223372036854775807 then (h.l0 a_0 a_1 t2 (s ++ (scut str_3 (rd a_1 i) (w64 ((rd a_1 i) + 1)))) (w64 (i - 1))) else none) else none) else none) else none) else (some (s))
noncomputable def Qq.hs : Nat → Qq.Hs
 | 0 => ⟨fun _ _ _ _ _ => none⟩
 | k + 1 => ⟨fun x0 x1 x2 x3 x4 => Qq.b0 k (Qq.hs k) x0 x1 x2 x3 x4⟩
noncomputable def Qq.f (k : Nat) (a : Qf) : Option ByteArray := (fun h : Qq.Hs => (XX.f k a).bind fun y2 => if y2 < 0 then (Qq.j1 k h a.f_Neg a.f_D str_0 str_1) else (Qq.j1 k h a.f_Neg a.f_D str_0 str_0)) (Qq.hs k)
noncomputable def Qq.Kj1 : List Item := .code (seqR (seqR (seqR Qq.C))) :: []
noncomputable def Qq.Kl0 : List Item := .code (lopB (blkB (seqR (seqL (seqR (seqR (seqR (seqR Qq.C)))))))) :: .inLoop (lopB (blkB (seqR (seqL (seqR (seqR (seqR (seqR Qq.C)))))))) :: .inBlock 0 :: .code (seqR (seqR (seqR (seqR (seqR Qq.C))))) :: []
structure Qq.OK (h : Qq.Hs) : Prop where
 l0 : ∀ {H0 H : Hp} {L : Items} {r : ByteArray} {jk_ : Nat → Value} {a_0 : Bool} {a_1 : List Int} {t2 : ByteArray} {s : ByteArray} {i : Int} {v_a_1 : Value} {b_a : Nat} (_ : H0.le H) (_he : h.l0 a_0 a_1 t2 s i = some r) (_h_a_1 : Ro kI64 H v_a_1 a_1), Wp Tryz.prog 99 35 Qq.Kl0 (upd (upd (upd (upd jk_ 1 (pt b_a)) 2 (.string t2)) 3 (.string s)) 4 (.int .i64 i)) H (bx b_a [.bool a_0, v_a_1] 37 :: L) (Qq.R H0 L r)
theorem Qq.j1_ok {k : Nat} {h : Qq.Hs} (hh : Qq.OK h) {H0 H : Hp} {L : Items} {r : ByteArray} {jk_ : Nat → Value} {a_0 : Bool} {a_1 : List Int} {t2 s : ByteArray} {v_a_1 : Value} {b_a : Nat} (hle : H0.le H) (he : Qq.j1 k h a_0 a_1 t2 s = some r) (h_a_1 : Ro kI64 H v_a_1 a_1) : Wp Tryz.prog 99 35 Qq.Kj1 (upd (upd (upd jk_ 1 (pt b_a)) 2 (.string t2)) 3 (.string s)) H (bx b_a [.bool a_0, v_a_1] 37 :: L) (Qq.R H0 L r) := by
 unfold Qq.j1 at he
 unfold Qq.Kj1
 refine Q0 <| wR rfl <| w_d rfl (Q9 (o' := 1) Tryz.underlying37 rfl sz35 rfl rfl rfl) <| wL v_a_1 ty35 rfl rfl .here rfl rfl <| w_d rfl (Xr Tryz.underlying35 rfl h_a_1.src) <| w_d rfl (Zh rfl rfl) <| Qb ?_
 rcases its he with ⟨c7, he⟩ | ⟨c7, he⟩
 ·
  refine QE rfl (dt c7) <| wR rfl <| wA (.string str_2) rfl rfl <| Qb ?_
  obtain rfl := sj he
  refine Qn fn_99 rs_99 (.tmp (v := .string str_2) rfl .nil) <| ⟨⟨[_], rfl⟩, hle, rfl⟩
 ·
  refine QF rfl (df c7) <| QH <| Q0 <| wR rfl <| w_d rfl (Q9 (o' := 1) Tryz.underlying37 rfl sz35 rfl rfl rfl) <| wL v_a_1 ty35 rfl rfl .here rfl rfl <| w_d rfl (Xr Tryz.underlying35 rfl h_a_1.src) <| w_d rfl (YD (c := w64 ((a_1.length : Int) - 1)) rfl rfl rfl) <| wA (.int .i64 (w64 ((a_1.length : Int) - 1))) rfl rfl <| Qb <| Xa ?_
  refine X9 <| w_sl 1 (pt b_a) rfl <| w_sl 2 (.string t2) rfl <| w_sl 3 (.string s) rfl <| w_sl 4 (.int .i64 (w64 ((a_1.length : Int) - 1))) rfl <| hh.l0 hle he h_a_1
theorem Qq.b0_ok {k : Nat} {h : Qq.Hs} (hh : Qq.OK h) {H0 H : Hp} {L : Items} {r : ByteArray} {jk_ : Nat → Value} {a_0 : Bool} {a_1 : List Int} {t2 s : ByteArray} {i : Int} {v_a_1 : Value} {b_a : Nat} (hle : H0.le H) (he : Qq.b0 k h a_0 a_1 t2 s i = some r) (h_a_1 : Ro kI64 H v_a_1 a_1) : Wp Tryz.prog 99 35 Qq.Kl0 (upd (upd (upd (upd jk_ 1 (pt b_a)) 2 (.string t2)) 3 (.string s)) 4 (.int .i64 i)) H (bx b_a [.bool a_0, v_a_1] 37 :: L) (Qq.R H0 L r) := by
 unfold Qq.b0 at he
 unfold Qq.Kl0
 refine Q0 <| wR rfl <| wM (.int .i64 i) rfl rfl <| w_d rfl (ZJ rfl rfl) <| Qb ?_
 rcases its he with ⟨c8, he⟩ | ⟨c8, he⟩
 ·
  refine QE rfl (dt c8) <| QH <| Q0 <| Xa <| rK he fun c9 he => rK he fun c10 he => rK he fun c11 he => Xy (p := 13) (tl := [13, 14]) [[], [], [(1, some 21)], [], [(2, some 22), (3, some 23)], [(4, some 24)], [], [(6, some 26)], [], [(7, some 27), (8, some 28)], [(9, some 29)], [(10, some 30)], [(5, some 25), (11, some 31)]] [some 20, some 21, some 22, some 23, some 24, some 25, some 26, some 27, some 28, some 29, some 30, some 31, some 32] (fctF (.is (.string s) :: .is (po b_a 1) :: .is (v_a_1) :: .is (.int .i64 i) :: .is (.pointer (some (pel v_a_1 i 1))) :: .is (.int .i64 (rd a_1 i)) :: .is (po b_a 1) :: .is (v_a_1) :: .is (.int .i64 i) :: .is (.pointer (some (pel v_a_1 i 1))) :: .is (.int .i64 (rd a_1 i)) :: .is (.int .i64 (w64 ((rd a_1 i) + 1))) :: .is (.string (scut str_3 (rd a_1 i) (w64 ((rd a_1 i) + 1)))) :: [])) (fun m_ => bx b_a [.bool a_0, v_a_1] 37 :: L) (fun _ => none) mixed (by kernel_rfl) (by kernel_rfl) rfl (Xn (by kernel_rfl)) ⟨(fun H' m_ hH hm_ hu_ => dn <| s_d (m_ 0) rfl (QW (v := .string s) rfl) (by exact rfl) rfl), (fun H' m_ hH hm_ hu_ => dn <| s_d (m_ 1) rfl (Q9 (o' := 1) Tryz.underlying37 rfl sz35 rfl rfl rfl) (by exact rfl) rfl), (by rintro H' m_ hH hm_ hu_ _ rfl; exact dn <| s_d (m_ 2) rfl (QG (v := v_a_1) ty35 rfl .here rfl rfl rfl rfl) (by exact rfl) rfl), (fun H' m_ hH hm_ hu_ => dn <| s_d (m_ 3) rfl (QW (v := .int .i64 i) rfl) (by exact rfl) rfl), (by rintro H' m_ hH hm_ hu_ _ rfl _ rfl; exact dn <| s_d (m_ 4) rfl (XK (sz := 1) Tryz.underlying35 sz3 rfl (h_a_1.mono hH).src rfl c9) (by exact rfl) rfl), (by rintro H' m_ hH hm_ hu_ _ rfl; exact dn <| s_d (m_ 5) rfl (XP ty3 rfl (h_a_1.mono hH).src c9) (by exact rfl) rfl), (fun H' m_ hH hm_ hu_ => dn <| s_d (m_ 6) rfl (Q9 (o' := 1) Tryz.underlying37 rfl sz35 rfl rfl rfl) (by exact rfl) rfl), (by rintro H' m_ hH hm_ hu_ _ rfl; exact dn <| s_d (m_ 7) rfl (QG (v := v_a_1) ty35 rfl .here rfl rfl rfl rfl) (by exact rfl) rfl), (fun H' m_ hH hm_ hu_ => dn <| s_d (m_ 8) rfl (QW (v := .int .i64 i) rfl) (by exact rfl) rfl), (by rintro H' m_ hH hm_ hu_ _ rfl _ rfl; exact dn <| s_d (m_ 9) rfl (XK (sz := 1) Tryz.underlying35 sz3 rfl (h_a_1.mono hH).src rfl c10) (by exact rfl) rfl), (by rintro H' m_ hH hm_ hu_ _ rfl; exact dn <| s_d (m_ 10) rfl (XP ty3 rfl (h_a_1.mono hH).src c10) (by exact rfl) rfl), (by rintro H' m_ hH hm_ hu_ _ rfl; exact dn <| s_d (m_ 11) rfl (XR (c := w64 ((rd a_1 i) + 1)) rfl rfl rfl) (by exact rfl) rfl), (by rintro H' m_ hH hm_ hu_ _ rfl _ rfl; exact dn <| s_d (m_ 12) rfl (UN Tryz.underlying9 rfl (.inr ⟨_, _, rfl, rfl⟩) (.inr ⟨_, _, rfl, rfl⟩) c11) (by exact rfl) rfl), trivial⟩ ?_
  intro H12 e13
  rintro _ _ rfl _ _ rfl _ _ rfl _ _ rfl _ _ rfl _ _ rfl _ _ rfl _ _ rfl _ _ rfl _ _ rfl _ _ rfl _ _ rfl _ _ rfl
  refine rK he fun c14 he => w_d rfl (Mb rfl rfl c14) <| wA (.string (s ++ (scut str_3 (rd a_1 i) (w64 ((rd a_1 i) + 1))))) rfl rfl <| Qb <| XC <| QU rfl <| wM (.int .i64 i) rfl rfl <| w_d rfl (YD (c := w64 (i - 1)) rfl rfl rfl) <| wA (.int .i64 (w64 (i - 1))) rfl rfl <| Qb <| XL <| w_sl 1 (pt b_a) rfl ?_
  refine w_sl 2 (.string t2) rfl <| w_sl 3 (.string (s ++ (scut str_3 (rd a_1 i) (w64 ((rd a_1 i) + 1))))) rfl <| w_sl 4 (.int .i64 (w64 (i - 1))) rfl <| hh.l0 (hle.trans e13) he (h_a_1.mono e13)
 ·
  refine QF rfl (df c8) <| X8 rfl <| wR rfl <| wM (.string s) rfl rfl <| wA (.string s) rfl rfl <| Qb ?_
  obtain rfl := sj he
  refine Qn fn_99 rs_99 (.tmp (v := .string s) rfl .nil) <| ⟨⟨[_], rfl⟩, hle, rfl⟩
theorem Qq.ok : ∀ k, Qq.OK (Qq.hs k)
 | 0 => ⟨(by intros; exact nomatch (show none = some _ from by assumption))⟩
 | k + 1 => ⟨Qq.b0_ok (k := k) (Qq.ok k)⟩
theorem Qq.calls (k : Nat) {H : Hp} {L : Items} {a : Qf} {v0_a : Value} {r : ByteArray} (he : Qq.f k a = some r) (h0_a : Ro kI64 H v0_a a.f_D) : Ct Tryz.prog 99 ⟨[(Qa a v0_a)]⟩ H L (fun v H' L' => L = L' ∧ H = H' ∧ v = .string r) := by
 refine Yj (O := Qq.out r) (fun _ _ h => h) ?_
 have hle : H.le H := .refl _
 have hh := Qq.ok k
 unfold Qq.f at he
 refine QV (args := [_]) fn_99 rfl nt_99 rfl <| wR rfl <| wB (Qa a v0_a) rfl rfl rfl <| fun b1 => wA (.string str_0) rfl rfl <| wQ rfl <| wA (.string str_0) rfl rfl <| wE <| Q0 ?_
 refine QU rfl <| wL (Qa a v0_a) ty37 rfl rfl .here rfl rfl <| bK he fun y2 hy3 he => w_d rfl (Xx (Qm co62 (vs := [(Qa a v0_a)]) rfl (XX.calls k (a := a) hy3 h0_a))) <| w_d rfl (XY rfl rfl) <| Qb ?_
 rcases its he with ⟨c6, he⟩ | ⟨c6, he⟩
 ·
  refine QE rfl (dt c6) <| QU rfl <| wA (.string str_1) rfl rfl <| Qb <| w_sl 1 (pt b1) rfl <| w_sl 2 (.string str_0) rfl <| w_sl 3 (.string str_1) rfl <| Qq.j1_ok (k := k) hh hle he h0_a
 ·
  refine QF rfl (df c6) <| QH <| w_sl 1 (pt b1) rfl <| w_sl 2 (.string str_0) rfl <| w_sl 3 (.string str_0) rfl <| Qq.j1_ok (k := k) hh hle he h0_a
noncomputable def Xi.C : Code := (Tryz.f147.body).getD .skip
def Xi.out (r : Bool) (H : Hp) (v : Value) : Prop := v = .bool r
abbrev Xi.R (H0 : Hp) (L : Items) (r : Bool) := fR H0 L (Xi.out r)
structure Xi.Hs where
 l0 : Bool → (List Int) → Int → Int → Option Bool
noncomputable def Xi.b0 (k : Nat) (h : Xi.Hs) (t2 : Bool) (t24 : List Int) (t25 t26 : Int) : Option Bool := if t26 < t25 then (if (0 : Int) ≤ t26 ∧ t26 < (t24.length : Int) then (if ((decide ((rd t24 t26) < 48)) || (decide (57 < (rd t24 t26)))) = true then (some (false)) else (h.l0 t2 t24 t25 (w64 (t26 + 1)))) else none) else (some (true))
noncomputable def Xi.hs : Nat → Xi.Hs
 | 0 => ⟨fun _ _ _ _ => none⟩
 | k + 1 => ⟨fun x0 x1 x2 x3 => Xi.b0 k (Xi.hs k) x0 x1 x2 x3⟩
noncomputable def Xi.f (k : Nat) (s : ByteArray) : Option Bool := (fun h : Xi.Hs => if (!((decide ((s.size : Int) = 0)) || (decide (1300 < (s.size : Int))))) = true → (0 : Int) ≤ 0 ∧ 0 < (s.size : Int) then (if (((decide ((s.size : Int) = 0)) || (decide (1300 < (s.size : Int)))) || ((decide ((bt s 0) = 48)) && (decide (1 < (s.size : Int))))) = true then (some (false)) else (h.l0 false (bytesOf s) ((bytesOf s).length : Int) 0)) else none) (Xi.hs k)
noncomputable def Xi.Kl0 : List Item := .code (lopB (blkB (seqR (seqL (seqR (seqR Xi.C)))))) :: .inLoop (lopB (blkB (seqR (seqL (seqR (seqR Xi.C)))))) :: .inBlock 0 :: .code (seqR (seqR (seqR Xi.C))) :: []
structure Xi.OK (h : Xi.Hs) : Prop where
 l0 : ∀ {H0 H : Hp} {L : Items} {r : Bool} {jk_ : Nat → Value} {t2 : Bool} {t24 : List Int} {t25 : Int} {t26 : Int} {v_t24 : Value} (_ : H0.le H) (_he : h.l0 t2 t24 t25 t26 = some r) (_h_t24 : Ro kU8 H v_t24 t24), Wp Tryz.prog 147 37 Xi.Kl0 (upd (upd (upd (upd jk_ 2 (.bool t2)) 24 (v_t24)) 25 (.int .i64 t25)) 26 (.int .i64 t26)) H (L) (Xi.R H0 L r)
theorem Xi.b0_ok {k : Nat} {h : Xi.Hs} (hh : Xi.OK h) {H0 H : Hp} {L : Items} {r : Bool} {jk_ : Nat → Value} {t2 : Bool} {t24 : List Int} {t25 t26 : Int} {v_t24 : Value} (hle : H0.le H) (he : Xi.b0 k h t2 t24 t25 t26 = some r) (h_t24 : Ro kU8 H v_t24 t24) : Wp Tryz.prog 147 37 Xi.Kl0 (upd (upd (upd (upd jk_ 2 (.bool t2)) 24 (v_t24)) 25 (.int .i64 t25)) 26 (.int .i64 t26)) H (L) (Xi.R H0 L r) := by
 unfold Xi.b0 at he
 unfold Xi.Kl0
 refine wR rfl <| w_d rfl (XY rfl rfl) <| wE ?_
 rcases its he with ⟨c18, he⟩ | ⟨c18, he⟩
 ·
  refine QE rfl (dt c18) <| QH <| Q0 <| Xa <| wR rfl <| rK he fun c19 he => w_d rfl (XK (sz := 1) Tryz.underlying52 sz5 rfl h_t24.src rfl c19) <| w_d rfl (XP ty5 rfl h_t24.src c19) <| wA (.int .u8 (rd t24 t26)) rfl rfl <| wE ?_
  refine QU rfl <| wM (.int .u8 (rd t24 t26)) rfl rfl <| w_d rfl (XY rfl rfl) <| wM (.bool (decide ((rd t24 t26) < 48))) rfl rfl <| w_g (g := !(decide ((rd t24 t26) < 48))) rfl rfl rfl wn_f (fun g20 => QW (v := .int .u8 (rd t24 t26)) rfl) <| w_g (g := !(decide ((rd t24 t26) < 48))) rfl rfl rfl wn_f (fun g21 => YR (cvt g21) rfl) <| w_d rfl (d_or' (b := (decide ((rd t24 t26) < 48))) (p := (decide (57 < (rd t24 t26)))) rfl rfl rfl) <| Qb ?_
  rcases its he with ⟨c22, he⟩ | ⟨c22, he⟩
  ·
   refine QE rfl c22 <| wR rfl <| wA (.bool false) rfl rfl <| Qb ?_
   obtain rfl := sj he
   refine Qn fn_147 rs_147 (.tmp (v := .bool false) rfl .nil) <| ⟨⟨[], rfl⟩, hle, rfl⟩
  ·
   refine QF rfl (Bool.eq_false_iff.2 c22) <| QH <| XC <| QU rfl <| w_d rfl (XR (c := w64 (t26 + 1)) rfl rfl rfl) <| wM (.int .i64 (w64 (t26 + 1))) rfl rfl <| Qb <| XL <| w_sl 2 (.bool t2) rfl <| w_sl 24 (v_t24) rfl <| w_sl 25 (.int .i64 t25) rfl <| w_sl 26 (.int .i64 (w64 (t26 + 1))) rfl <| hh.l0 hle he h_t24
 ·
  refine QF rfl (df c18) <| X8 rfl <| wR rfl <| wA (.bool true) rfl rfl <| Qb ?_
  obtain rfl := sj he
  refine Qn fn_147 rs_147 (.tmp (v := .bool true) rfl .nil) <| ⟨⟨[], rfl⟩, hle, rfl⟩
theorem Xi.ok : ∀ k, Xi.OK (Xi.hs k)
 | 0 => ⟨(by intros; exact nomatch (show none = some _ from by assumption))⟩
 | k + 1 => ⟨Xi.b0_ok (k := k) (Xi.ok k)⟩
theorem Xi.calls (k : Nat) {H : Hp} {L : Items} {s : ByteArray} {r : Bool} (he : Xi.f k s = some r) : Ct Tryz.prog 147 ⟨[.string s]⟩ H L (fun v H' L' => L = L' ∧ H = H' ∧ v = .bool r) := by
 refine Yj (O := Xi.out r) (fun _ _ h => h) ?_
 have hle : H.le H := .refl _
 have hh := Xi.ok k
 unfold Xi.f at he
 refine QV (args := [_]) fn_147 rfl nt_147 rfl <| wR rfl <| wA (.bool false) rfl rfl <| wE <| wR rfl <| wM (.string s) rfl rfl <| w_d rfl (G4 Tryz.underlying9 rfl) <| w_d rfl (Zh rfl rfl) <| wM (.bool (decide ((s.size : Int) = 0))) rfl rfl ?_
 refine w_g (g := !(decide ((s.size : Int) = 0))) rfl rfl rfl wn_f (fun g1 => QW (v := .string s) rfl) <| w_g (g := !(decide ((s.size : Int) = 0))) rfl rfl rfl wn_f (fun g2 => G4 Tryz.underlying9 (cvt g2)) <| w_g (g := !(decide ((s.size : Int) = 0))) rfl rfl rfl wn_f (fun g3 => YR (cvt g3) rfl) <| w_d rfl (d_or' (b := (decide ((s.size : Int) = 0))) (p := (decide (1300 < (s.size : Int)))) rfl rfl rfl) <| wM (.bool ((decide ((s.size : Int) = 0)) || (decide (1300 < (s.size : Int))))) rfl rfl <| w_g (g := !((decide ((s.size : Int) = 0)) || (decide (1300 < (s.size : Int))))) rfl rfl rfl wn_f (fun g4 => QW (v := .string s) rfl) <| rK he fun c6 he => w_g (g := !((decide ((s.size : Int) = 0)) || (decide (1300 < (s.size : Int))))) rfl rfl rfl wn_f (fun g5 => d_bt Tryz.underlying9 (cvt g5) rfl (c6 g5)) <| w_g (g := !((decide ((s.size : Int) = 0)) || (decide (1300 < (s.size : Int))))) rfl rfl rfl wn_f (fun g7 => Zh (cvt g7) rfl) <| w_g (g := !((decide ((s.size : Int) = 0)) || (decide (1300 < (s.size : Int))))) rfl rfl rfl wn_f (fun g8 => QW (v := .bool (decide ((bt s 0) = 48))) (cvt g8)) <| w_g (g := (!((decide ((s.size : Int) = 0)) || (decide (1300 < (s.size : Int))))) && (decide ((bt s 0) = 48))) rfl rfl rfl G6 (fun g9 => QW (v := .string s) rfl) <| w_g (g := (!((decide ((s.size : Int) = 0)) || (decide (1300 < (s.size : Int))))) && (decide ((bt s 0) = 48))) rfl rfl rfl G6 (fun g10 => G4 Tryz.underlying9 (cvt g10)) ?_
 refine w_g (g := (!((decide ((s.size : Int) = 0)) || (decide (1300 < (s.size : Int))))) && (decide ((bt s 0) = 48))) rfl rfl rfl G6 (fun g11 => YR (cvt g11) rfl) <| w_g (g := !((decide ((s.size : Int) = 0)) || (decide (1300 < (s.size : Int))))) rfl rfl rfl wn_f (fun g12 => d_and' (b := (decide ((bt s 0) = 48))) (p := (decide (1 < (s.size : Int)))) (cvt g12) (cva g12) rfl) <| w_d rfl (d_or' (b := ((decide ((s.size : Int) = 0)) || (decide (1300 < (s.size : Int))))) (p := ((decide ((bt s 0) = 48)) && (decide (1 < (s.size : Int))))) rfl rfl rfl) <| Qb ?_
 rcases its he with ⟨c13, he⟩ | ⟨c13, he⟩
 ·
  refine QE rfl c13 <| wR rfl <| wA (.bool false) rfl rfl <| Qb ?_
  obtain rfl := sj he
  refine Qn fn_147 rs_147 (.tmp (v := .bool false) rfl .nil) <| ⟨⟨[], rfl⟩, hle, rfl⟩
 ·
  refine QF rfl (Bool.eq_false_iff.2 c13) <| QH <| Q0 <| wR rfl <| wM (.string s) rfl rfl <| w_a rfl (N9 Tryz.underlying9 Tryz.underlying52 Tryz.underlying5 rfl) ?_
  rintro v14 H15 _ ⟨rfl, e16, h17⟩
  refine w_d rfl (Xr Tryz.underlying52 rfl h17.src) <| wM (.int .i64 0) rfl rfl <| Qb <| Xa <| X9 <| w_sl 2 (.bool false) rfl <| w_sl 24 (v14) rfl <| w_sl 25 (.int .i64 ((bytesOf s).length : Int)) rfl <| w_sl 26 (.int .i64 0) rfl <| hh.l0 (hle.trans e16) he h17
noncomputable def QA.C : Code := (Tryz.f145.body).getD .skip
abbrev QA.out (r : (List Int)) (H : Hp) (v : Value) : Prop := Ro kU32 H v r
abbrev QA.R (H0 : Hp) (L : Items) (r : (List Int)) := fR H0 L (QA.out r)
structure QA.Hs where
 l0 : (List Int) → (List Int) → (List Int) → Int → Int → Option (List Int)
 l1 : (List Int) → (List Int) → Int → Int → Int → (List Int) → Int → Int → (List Int) → Int → Int → Option (List Int)
noncomputable def QA.b0 (k : Nat) (h : QA.Hs) (b out t18 : List Int) (t19 t20 : Int) : Option (List Int) := if t20 < t19 then (if (0 : Int) ≤ t20 ∧ t20 < (t18.length : Int) then (h.l1 b out t20 (rd t18 t20) 0 t18 t19 t20 b (b.length : Int) 0) else none) else (some (out))
noncomputable def QA.b1 (k : Nat) (h : QA.Hs) (b out : List Int) (i x carry : Int) (t18 : List Int) (t19 t20 : Int) (t25 : List Int) (t26 t27 : Int) : Option (List Int) := if t27 < t26 then (if (0 : Int) ≤ t27 ∧ t27 < (t25.length : Int) then (if (0 : Int) ≤ w64 (i + t27) ∧ w64 (i + t27) < (out.length : Int) then (if (0 : Int) ≤ w64 (i + t27) ∧ w64 (i + t27) < (out.length : Int) then (h.l1 b (out.set (w64 (i + t27) : Int).toNat (((((((((x) % 18446744073709551616) * ((rd t25 t27) % 18446744073709551616)) % 18446744073709551616) + ((rd out (w64 (i + t27))) % 18446744073709551616)) % 18446744073709551616) + carry) % 18446744073709551616) % 4294967296)) i x (((((((((x) % 18446744073709551616) * ((rd t25 t27) % 18446744073709551616)) % 18446744073709551616) + ((rd out (w64 (i + t27))) % 18446744073709551616)) % 18446744073709551616) + carry) % 18446744073709551616) / 4294967296) t18 t19 t20 t25 t26 (w64 (t27 + 1))) else none) else none) else none) else (if (0 : Int) ≤ w64 (i + (b.length : Int)) ∧ w64 (i + (b.length : Int)) < (out.length : Int) then (h.l0 b (out.set (w64 (i + (b.length : Int)) : Int).toNat ((carry) % 4294967296)) t18 t19 (w64 (t20 + 1))) else none)
noncomputable def QA.hs : Nat → QA.Hs
 | 0 => ⟨fun _ _ _ _ _ => none, fun _ _ _ _ _ _ _ _ _ _ _ => none⟩
 | k + 1 => ⟨fun x0 x1 x2 x3 x4 => QA.b0 k (QA.hs k) x0 x1 x2 x3 x4, fun x0 x1 x2 x3 x4 x5 x6 x7 x8 x9 x10 => QA.b1 k (QA.hs k) x0 x1 x2 x3 x4 x5 x6 x7 x8 x9 x10⟩
noncomputable def QA.f (k : Nat) (a b : List Int) : Option (List Int) := (fun h : QA.Hs => if 0 ≤ w64 ((a.length : Int) + (b.length : Int)) ∧ w64 ((a.length : Int) + (b.length : Int)) ≤ 70368744177664 then (h.l0 b (List.replicate (w64 ((a.length : Int) + (b.length : Int)) : Int).toNat (0 : Int)) a (a.length : Int) 0) else none) (QA.hs k)
structure QA.LE (h h' : QA.Hs) : Prop where
 l0 : ∀ y0 y1 y2 y3 y4, LeO (h.l0 y0 y1 y2 y3 y4) (h'.l0 y0 y1 y2 y3 y4)
 l1 : ∀ y0 y1 y2 y3 y4 y5 y6 y7 y8 y9 y10, LeO (h.l1 y0 y1 y2 y3 y4 y5 y6 y7 y8 y9 y10) (h'.l1 y0 y1 y2 y3 y4 y5 y6 y7 y8 y9 y10)
theorem QA.b0_mono {k : Nat} {h h' : QA.Hs} (hl : QA.LE h h') : ∀ y0 y1 y2 y3 y4, LeO (QA.b0 k h y0 y1 y2 y3 y4) (QA.b0 (k + 1) h' y0 y1 y2 y3 y4) := fun _ _ _ _ _ => (LeO.ite (LeO.ite (hl.l1 _ _ _ _ _ _ _ _ _ _ _) (LeO.refl _)) (LeO.refl _))
theorem QA.b1_mono {k : Nat} {h h' : QA.Hs} (hl : QA.LE h h') : ∀ y0 y1 y2 y3 y4 y5 y6 y7 y8 y9 y10, LeO (QA.b1 k h y0 y1 y2 y3 y4 y5 y6 y7 y8 y9 y10) (QA.b1 (k + 1) h' y0 y1 y2 y3 y4 y5 y6 y7 y8 y9 y10) := fun _ _ _ _ _ _ _ _ _ _ _ => (LeO.ite (LeO.ite (LeO.ite (LeO.ite (hl.l1 _ _ _ _ _ _ _ _ _ _ _) (LeO.refl _)) (LeO.refl _)) (LeO.refl _)) (LeO.ite (hl.l0 _ _ _ _ _) (LeO.refl _)))
theorem QA.hs_mono : ∀ k, QA.LE (QA.hs k) (QA.hs (k + 1))
 | 0 => ⟨fun _ _ _ _ _ => LeO.none _, fun _ _ _ _ _ _ _ _ _ _ _ => LeO.none _⟩
 | k + 1 => ⟨QA.b0_mono (k := k) (QA.hs_mono k), QA.b1_mono (k := k) (QA.hs_mono k)⟩
theorem QA.mono : ∀ k y0 y1, LeO (QA.f k y0 y1) (QA.f (k + 1) y0 y1) := fun k _ _ => have hl := QA.hs_mono k; by unfold QA.f; exact (LeO.ite (hl.l0 _ _ _ _ _) (LeO.refl _))
noncomputable def QA.Kl0 : List Item := .code (lopB (blkB (seqR (seqL (seqR (seqR QA.C)))))) :: .inLoop (lopB (blkB (seqR (seqL (seqR (seqR QA.C)))))) :: .inBlock 0 :: .code (seqR (seqR (seqR QA.C))) :: []
noncomputable def QA.Kl1 : List Item := .code (lopB (blkB (seqR (seqL (seqR (seqR (blkB (seqL (seqR (seqR (lopB (blkB (seqR (seqL (seqR (seqR QA.C)))))))))))))))) :: .inLoop (lopB (blkB (seqR (seqL (seqR (seqR (blkB (seqL (seqR (seqR (lopB (blkB (seqR (seqL (seqR (seqR QA.C)))))))))))))))) :: .inBlock 2 :: .code (seqR (seqR (seqR (blkB (seqL (seqR (seqR (lopB (blkB (seqR (seqL (seqR (seqR QA.C))))))))))))) :: .inBlock 1 :: .code (seqR (seqR (seqR (lopB (blkB (seqR (seqL (seqR (seqR QA.C))))))))) :: .inLoop (lopB (blkB (seqR (seqL (seqR (seqR QA.C)))))) :: .inBlock 0 :: .code (seqR (seqR (seqR QA.C))) :: []
structure QA.OK (h : QA.Hs) : Prop where
 l0 : ∀ {H0 H : Hp} {L : Items} {r : (List Int)} {jk_ : Nat → Value} {b : List Int} {out : List Int} {t18 : List Int} {t19 : Int} {t20 : Int} {v_b : Value} {v_out : Value} {v_t18 : Value} {i_out : Item'} (_ : H0.le H) (_he : h.l0 b out t18 t19 t20 = some r) (_h_b : Src kU32 H L v_b b) (_h_out : Sl kU32 H 167 i_out v_out out) (_h_t18 : Src kU32 H L v_t18 t18), Wp Tryz.prog 145 67 QA.Kl0 (upd (upd (upd (upd (upd (upd jk_ 1 (v_b)) 4 (.slice none 0 0)) 5 (v_out)) 18 (v_t18)) 19 (.int .i64 t19)) 20 (.int .i64 t20)) H (i_out :: L) (QA.R H0 L r)
 l1 : ∀ {H0 H : Hp} {L : Items} {r : (List Int)} {jk_ : Nat → Value} {b : List Int} {out : List Int} {i : Int} {x : Int} {carry : Int} {t18 : List Int} {t19 : Int} {t20 : Int} {t25 : List Int} {t26 : Int} {t27 : Int} {v_b : Value} {v_out : Value} {v_t18 : Value} {v_t25 : Value} {i_out : Item'} (_ : H0.le H) (_he : h.l1 b out i x carry t18 t19 t20 t25 t26 t27 = some r) (_h_b : Src kU32 H L v_b b) (_h_out : Sl kU32 H 167 i_out v_out out) (_h_t18 : Src kU32 H L v_t18 t18) (_h_t25 : Src kU32 H L v_t25 t25), Wp Tryz.prog 145 67 QA.Kl1 (upd (upd (upd (upd (upd (upd (upd (upd (upd (upd (upd (upd jk_ 1 (v_b)) 4 (.slice none 0 0)) 5 (v_out)) 6 (.int .i64 i)) 7 (.int .u32 x)) 8 (.int .u64 carry)) 18 (v_t18)) 19 (.int .i64 t19)) 20 (.int .i64 t20)) 25 (v_t25)) 26 (.int .i64 t26)) 27 (.int .i64 t27)) H (i_out :: L) (QA.R H0 L r)
theorem QA.b0_ok {k : Nat} {h : QA.Hs} (hh : QA.OK h) {H0 H : Hp} {L : Items} {r : (List Int)} {jk_ : Nat → Value} {b out t18 : List Int} {t19 t20 : Int} {v_b v_out v_t18 : Value} {i_out : Item'} (hle : H0.le H) (he : QA.b0 k h b out t18 t19 t20 = some r) (h_b : Src kU32 H L v_b b) (h_out : Sl kU32 H 167 i_out v_out out) (h_t18 : Src kU32 H L v_t18 t18) : Wp Tryz.prog 145 67 QA.Kl0 (upd (upd (upd (upd (upd (upd jk_ 1 (v_b)) 4 (.slice none 0 0)) 5 (v_out)) 18 (v_t18)) 19 (.int .i64 t19)) 20 (.int .i64 t20)) H (i_out :: L) (QA.R H0 L r) := by
 unfold QA.b0 at he
 unfold QA.Kl0
 refine wR rfl <| w_d rfl (XY rfl rfl) <| wE ?_
 rcases its he with ⟨c5, he⟩ | ⟨c5, he⟩
 ·
  refine QE rfl (dt c5) <| QH <| Q0 <| Xa <| wR rfl <| wM (.int .i64 t20) rfl rfl <| rK he fun c6 he => w_d rfl (XK (sz := 1) Tryz.underlying22 sz167 rfl h_t18.th rfl c6) <| w_d rfl (XP ty167 rfl h_t18.th c6) <| wA (.int .i64 t20) rfl rfl <| wA (.int .u32 (rd t18 t20)) rfl rfl ?_
  refine wQ rfl <| wA (.int .u64 0) rfl rfl <| wE <| wR rfl <| wM v_b rfl rfl <| w_d rfl (Xr Tryz.underlying22 rfl h_b.th) <| wM (.int .i64 0) rfl rfl <| Qb ?_
  refine Xa <| X9 <| w_sl 1 (v_b) rfl <| w_sl 4 (.slice none 0 0) rfl <| w_sl 5 (v_out) rfl <| w_sl 6 (.int .i64 t20) rfl <| w_sl 7 (.int .u32 (rd t18 t20)) rfl <| w_sl 8 (.int .u64 0) rfl <| w_sl 18 (v_t18) rfl <| w_sl 19 (.int .i64 t19) rfl <| w_sl 20 (.int .i64 t20) rfl <| w_sl 25 (v_b) rfl ?_
  refine w_sl 26 (.int .i64 (b.length : Int)) rfl <| w_sl 27 (.int .i64 0) rfl <| hh.l1 hle he h_b h_out h_t18 h_b
 ·
  refine QF rfl (df c5) <| X8 rfl <| wR rfl <| wM v_out rfl rfl <| wA v_out rfl rfl <| Qb <| YA h_out .here ?_
  intro H7 e8 h9
  obtain rfl := sj he
  refine Qn fn_145 rs_145 (.tmp (v := v_out) rfl .nil) <| ⟨⟨[_], rfl⟩, hle.trans e8, h9⟩
theorem QA.b1_ok {k : Nat} {h : QA.Hs} (hh : QA.OK h) {H0 H : Hp} {L : Items} {r : (List Int)} {jk_ : Nat → Value} {b out : List Int} {i x carry : Int} {t18 : List Int} {t19 t20 : Int} {t25 : List Int} {t26 t27 : Int} {v_b v_out v_t18 v_t25 : Value} {i_out : Item'} (hle : H0.le H) (he : QA.b1 k h b out i x carry t18 t19 t20 t25 t26 t27 = some r) (h_b : Src kU32 H L v_b b) (h_out : Sl kU32 H 167 i_out v_out out) (h_t18 : Src kU32 H L v_t18 t18) (h_t25 : Src kU32 H L v_t25 t25) : Wp Tryz.prog 145 67 QA.Kl1 (upd (upd (upd (upd (upd (upd (upd (upd (upd (upd (upd (upd jk_ 1 (v_b)) 4 (.slice none 0 0)) 5 (v_out)) 6 (.int .i64 i)) 7 (.int .u32 x)) 8 (.int .u64 carry)) 18 (v_t18)) 19 (.int .i64 t19)) 20 (.int .i64 t20)) 25 (v_t25)) 26 (.int .i64 t26)) 27 (.int .i64 t27)) H (i_out :: L) (QA.R H0 L r) := by
 unfold QA.b1 at he
 unfold QA.Kl1
 refine wR rfl <| w_d rfl (XY rfl rfl) <| wE ?_
 rcases its he with ⟨c10, he⟩ | ⟨c10, he⟩
 ·
  refine QE rfl (dt c10) <| QH <| Q0 <| Xa <| wR rfl <| wM (.int .i64 t27) rfl rfl <| rK he fun c11 he => w_d rfl (XK (sz := 1) Tryz.underlying22 sz167 rfl h_t25.th rfl c11) <| w_d rfl (XP ty167 rfl h_t25.th c11) <| wA (.int .i64 t27) rfl rfl <| wA (.int .u32 (rd t25 t27)) rfl rfl ?_
  refine wQ rfl <| wM (.int .u32 x) rfl rfl <| w_d rfl (X7 (c := (x) % 18446744073709551616) Tryz.underlying167 Tryz.underlying113 rfl rfl) <| wM (.int .u32 (rd t25 t27)) rfl rfl <| w_d rfl (X7 (c := (rd t25 t27) % 18446744073709551616) Tryz.underlying167 Tryz.underlying113 rfl rfl) <| w_d rfl (Jw (c := (((x) % 18446744073709551616) * ((rd t25 t27) % 18446744073709551616)) % 18446744073709551616) rfl rfl rfl) <| wM v_out rfl rfl <| wM (.int .i64 i) rfl rfl <| wM (.int .i64 t27) rfl rfl <| w_d rfl (XR (c := w64 (i + t27)) rfl rfl rfl) ?_
  refine rK he fun c12 he => w_d rfl (YK (sz := 1) Tryz.underlying22 sz167 rfl h_out.shp rfl c12) <| w_d rfl (XP ty167 rfl (h_out.src .here) c12) <| w_d rfl (X7 (c := (rd out (w64 (i + t27))) % 18446744073709551616) Tryz.underlying167 Tryz.underlying113 rfl rfl) <| w_d rfl (XR (c := (((((x) % 18446744073709551616) * ((rd t25 t27) % 18446744073709551616)) % 18446744073709551616) + ((rd out (w64 (i + t27))) % 18446744073709551616)) % 18446744073709551616) rfl rfl rfl) <| wM (.int .u64 carry) rfl rfl <| w_d rfl (XR (c := (((((((x) % 18446744073709551616) * ((rd t25 t27) % 18446744073709551616)) % 18446744073709551616) + ((rd out (w64 (i + t27))) % 18446744073709551616)) % 18446744073709551616) + carry) % 18446744073709551616) rfl rfl rfl) <| wA (.int .u64 ((((((((x) % 18446744073709551616) * ((rd t25 t27) % 18446744073709551616)) % 18446744073709551616) + ((rd out (w64 (i + t27))) % 18446744073709551616)) % 18446744073709551616) + carry) % 18446744073709551616)) rfl rfl <| wQ rfl <| wM v_out rfl rfl ?_
  refine wM (.int .i64 i) rfl rfl <| wM (.int .i64 t27) rfl rfl <| w_d rfl (XR (c := w64 (i + t27)) rfl rfl rfl) <| wM (.int .u64 ((((((((x) % 18446744073709551616) * ((rd t25 t27) % 18446744073709551616)) % 18446744073709551616) + ((rd out (w64 (i + t27))) % 18446744073709551616)) % 18446744073709551616) + carry) % 18446744073709551616)) rfl rfl <| w_d rfl (X7 (c := ((((((((x) % 18446744073709551616) * ((rd t25 t27) % 18446744073709551616)) % 18446744073709551616) + ((rd out (w64 (i + t27))) % 18446744073709551616)) % 18446744073709551616) + carry) % 18446744073709551616) % 4294967296) Tryz.underlying113 Tryz.underlying167 rfl rfl) <| rK he fun c13 he => w_d rfl (YK (sz := 1) Tryz.underlying22 sz167 rfl h_out.shp rfl c13) <| w_a0 rfl (Y1 (kd := kU32) (v := .int .u32 (((((((((x) % 18446744073709551616) * ((rd t25 t27) % 18446744073709551616)) % 18446744073709551616) + ((rd out (w64 (i + t27))) % 18446744073709551616)) % 18446744073709551616) + carry) % 18446744073709551616) % 4294967296)) (F := fun z_ => z_ :: L) sz167 rfl rfl rfl rfl h_out c13 (fun _ => .here)) ?_
  rintro _ _ _ ⟨i14, rfl, rfl, rfl, h15⟩
  refine Qb <| QU rfl <| wM (.int .u64 ((((((((x) % 18446744073709551616) * ((rd t25 t27) % 18446744073709551616)) % 18446744073709551616) + ((rd out (w64 (i + t27))) % 18446744073709551616)) % 18446744073709551616) + carry) % 18446744073709551616)) rfl rfl <| w_d rfl (Z1 (c := ((((((((x) % 18446744073709551616) * ((rd t25 t27) % 18446744073709551616)) % 18446744073709551616) + ((rd out (w64 (i + t27))) % 18446744073709551616)) % 18446744073709551616) + carry) % 18446744073709551616) / 4294967296) rfl rfl (by decide) rfl) <| wA (.int .u64 (((((((((x) % 18446744073709551616) * ((rd t25 t27) % 18446744073709551616)) % 18446744073709551616) + ((rd out (w64 (i + t27))) % 18446744073709551616)) % 18446744073709551616) + carry) % 18446744073709551616) / 4294967296)) rfl rfl <| Qb <| XC <| QU rfl <| w_d rfl (XR (c := w64 (t27 + 1)) rfl rfl rfl) <| wM (.int .i64 (w64 (t27 + 1))) rfl rfl <| Qb <| XL ?_
  refine w_sl 1 (v_b) rfl <| w_sl 4 (.slice none 0 0) rfl <| w_sl 5 (v_out) rfl <| w_sl 6 (.int .i64 i) rfl <| w_sl 7 (.int .u32 x) rfl <| w_sl 8 (.int .u64 (((((((((x) % 18446744073709551616) * ((rd t25 t27) % 18446744073709551616)) % 18446744073709551616) + ((rd out (w64 (i + t27))) % 18446744073709551616)) % 18446744073709551616) + carry) % 18446744073709551616) / 4294967296)) rfl <| w_sl 18 (v_t18) rfl <| w_sl 19 (.int .i64 t19) rfl <| w_sl 20 (.int .i64 t20) rfl <| w_sl 25 (v_t25) rfl <| w_sl 26 (.int .i64 t26) rfl <| w_sl 27 (.int .i64 (w64 (t27 + 1))) rfl <| hh.l1 hle he h_b h15 h_t18 h_t25
 ·
  refine QF rfl (df c10) <| X8 rfl <| QU rfl <| wM v_out rfl rfl <| wM (.int .i64 i) rfl rfl <| wM v_b rfl rfl <| w_d rfl (Xr Tryz.underlying22 rfl h_b.th) <| w_d rfl (XR (c := w64 (i + (b.length : Int))) rfl rfl rfl) <| wM (.int .u64 carry) rfl rfl <| w_d rfl (X7 (c := (carry) % 4294967296) Tryz.underlying113 Tryz.underlying167 rfl rfl) <| rK he fun c16 he => w_d rfl (YK (sz := 1) Tryz.underlying22 sz167 rfl h_out.shp rfl c16) ?_
  refine w_a0 rfl (Y1 (kd := kU32) (v := .int .u32 ((carry) % 4294967296)) (F := fun z_ => z_ :: L) sz167 rfl rfl rfl rfl h_out c16 (fun _ => .here)) ?_
  rintro _ _ _ ⟨i17, rfl, rfl, rfl, h18⟩
  refine Qb <| XC <| QU rfl <| w_d rfl (XR (c := w64 (t20 + 1)) rfl rfl rfl) <| wM (.int .i64 (w64 (t20 + 1))) rfl rfl <| Qb <| XL <| w_sl 1 (v_b) rfl <| w_sl 4 (.slice none 0 0) rfl <| w_sl 5 (v_out) rfl <| w_sl 18 (v_t18) rfl <| w_sl 19 (.int .i64 t19) rfl ?_
  refine w_sl 20 (.int .i64 (w64 (t20 + 1))) rfl <| hh.l0 hle he h_b h18 h_t18
theorem QA.ok : ∀ k, QA.OK (QA.hs k)
 | 0 => ⟨(by intros; exact nomatch (show none = some _ from by assumption)), (by intros; exact nomatch (show none = some _ from by assumption))⟩
 | k + 1 => ⟨QA.b0_ok (k := k) (QA.ok k), QA.b1_ok (k := k) (QA.ok k)⟩
theorem QA.calls (k : Nat) {H : Hp} {L : Items} {a b : List Int} {v0_a v1_b : Value} {r : (List Int)} (he : QA.f k a b = some r) (h0_a : Src kU32 H L v0_a a) (h1_b : Src kU32 H L v1_b b) : Ct Tryz.prog 145 ⟨[v0_a, v1_b]⟩ H L (cR H L (QA.out r)) := by
 refine XO (O := QA.out r) ?_
 have hle : H.le H := .refl _
 have hh := QA.ok k
 unfold QA.f at he
 refine QV (args := [_, _]) fn_145 rfl nt_145 rfl <| wR rfl <| wA (.slice none 0 0) rfl rfl <| wQ rfl <| wM v0_a rfl rfl <| w_d rfl (Xr Tryz.underlying22 rfl h0_a) <| wM v1_b rfl rfl <| w_d rfl (Xr Tryz.underlying22 rfl h1_b) <| w_d rfl (XR (c := w64 ((a.length : Int) + (b.length : Int))) rfl rfl rfl) ?_
 refine rK he fun c1 he => w_a rfl (o_make' (kd := kU32) (z0 := 0) Tryz.underlying22 ti167 (zp167 _) rfl rfl (by omega) (by omega) (by omega)) ?_
 rintro v2 _ _ ⟨i3, rfl, rfl, h4⟩
 refine wA v2 rfl rfl <| wE <| wR rfl <| wM v0_a rfl rfl <| w_d rfl (Xr Tryz.underlying22 rfl h0_a.th) <| wM (.int .i64 0) rfl rfl <| Qb <| Xa <| X9 <| w_sl 1 (v1_b) rfl ?_
 refine w_sl 4 (.slice none 0 0) rfl <| w_sl 5 (v2) rfl <| w_sl 18 (v0_a) rfl <| w_sl 19 (.int .i64 (a.length : Int)) rfl <| w_sl 20 (.int .i64 0) rfl <| hh.l0 hle he h1_b h4 h0_a
noncomputable def QS.C : Code := (Tryz.f113.body).getD .skip
abbrev QS.out (r : (List Int)) (H : Hp) (v : Value) : Prop := Ro kU32 H v r
abbrev QS.R (H0 : Hp) (L : Items) (r : (List Int)) := fR H0 L (QS.out r)
structure QS.Hs where
 l0 : (List Int) → Option (List Int)
noncomputable def QS.b0 (k : Nat) (h : QS.Hs) (w : List Int) : Option (List Int) := if (decide (0 < (w.length : Int))) = true → (0 : Int) ≤ w64 ((w.length : Int) - 1) ∧ w64 ((w.length : Int) - 1) < (w.length : Int) then (if ((decide (0 < (w.length : Int))) && (decide ((rd w (w64 ((w.length : Int) - 1))) = 0))) = true then (if (0 : Int) ≤ 0 ∧ (0 : Int) ≤ w64 ((w.length : Int) - 1) ∧ w64 ((w.length : Int) - 1) ≤ (w.length : Int) then (h.l0 (cut w 0 (w64 ((w.length : Int) - 1)))) else none) else (some (w))) else none
noncomputable def QS.hs : Nat → QS.Hs
 | 0 => ⟨fun _ => none⟩
 | k + 1 => ⟨fun x0 => QS.b0 k (QS.hs k) x0⟩
noncomputable def QS.f (k : Nat) (w : List Int) : Option (List Int) := (fun h : QS.Hs => h.l0 w) (QS.hs k)
structure QS.LE (h h' : QS.Hs) : Prop where
 l0 : ∀ y0, LeO (h.l0 y0) (h'.l0 y0)
theorem QS.b0_mono {k : Nat} {h h' : QS.Hs} (hl : QS.LE h h') : ∀ y0, LeO (QS.b0 k h y0) (QS.b0 (k + 1) h' y0) := fun _ => (LeO.ite (LeO.ite (LeO.ite (hl.l0 _) (LeO.refl _)) (LeO.refl _)) (LeO.refl _))
theorem QS.hs_mono : ∀ k, QS.LE (QS.hs k) (QS.hs (k + 1))
 | 0 => ⟨fun _ => LeO.none _⟩
 | k + 1 => ⟨QS.b0_mono (k := k) (QS.hs_mono k)⟩
theorem QS.mono : ∀ k y0, LeO (QS.f k y0) (QS.f (k + 1) y0) := fun k _ => have hl := QS.hs_mono k; by unfold QS.f; exact (hl.l0 _)
noncomputable def QS.Kl0 : List Item := .code (lopB (blkB (seqL (seqR QS.C)))) :: .inLoop (lopB (blkB (seqL (seqR QS.C)))) :: .inBlock 0 :: .code (seqR (seqR QS.C)) :: []
structure QS.OK (h : QS.Hs) : Prop where
 l0 : ∀ {H0 H : Hp} {L : Items} {r : (List Int)} {jk_ : Nat → Value} {w : List Int} {v_w : Value} (_ : H0.le H) (_he : h.l0 w = some r) (_h_w : Ro kU32 H v_w w), Wp Tryz.prog 113 21 QS.Kl0 (upd (upd jk_ 0 (v_w)) 2 (.slice none 0 0)) H (L) (QS.R H0 L r)
theorem QS.b0_ok {k : Nat} {h : QS.Hs} (hh : QS.OK h) {H0 H : Hp} {L : Items} {r : (List Int)} {jk_ : Nat → Value} {w : List Int} {v_w : Value} (hle : H0.le H) (he : QS.b0 k h w = some r) (h_w : Ro kU32 H v_w w) : Wp Tryz.prog 113 21 QS.Kl0 (upd (upd jk_ 0 (v_w)) 2 (.slice none 0 0)) H (L) (QS.R H0 L r) := by
 unfold QS.b0 at he
 unfold QS.Kl0
 refine Q0 <| wR rfl <| wM v_w rfl rfl <| w_d rfl (Xr Tryz.underlying22 rfl h_w.src) <| w_d rfl (YR rfl rfl) <| wM (.bool (decide (0 < (w.length : Int)))) rfl rfl <| w_g (g := decide (0 < (w.length : Int))) rfl rfl rfl wn_t (fun g1 => QW (v := v_w) rfl) <| w_g (g := decide (0 < (w.length : Int))) rfl rfl rfl wn_t (fun g2 => QW (v := v_w) rfl) <| w_g (g := decide (0 < (w.length : Int))) rfl rfl rfl wn_t (fun g3 => Xr Tryz.underlying22 (cvt g3) h_w.src) <| w_g (g := decide (0 < (w.length : Int))) rfl rfl rfl wn_t (fun g4 => YD (c := w64 ((w.length : Int) - 1)) (cvt g4) rfl rfl) <| rK he fun c6 he => ?_
 refine w_g (g := decide (0 < (w.length : Int))) rfl rfl rfl wn_t (fun g5 => XK (sz := 1) Tryz.underlying22 sz167 (cvt g5) h_w.src (cvt g5) (c6 g5)) <| w_g (g := decide (0 < (w.length : Int))) rfl rfl rfl wn_t (fun g7 => XP ty167 (cvt g7) h_w.src (c6 g7)) <| w_g (g := decide (0 < (w.length : Int))) rfl rfl rfl wn_t (fun g8 => Zh (cvt g8) rfl) <| w_d rfl (d_and' (b := (decide (0 < (w.length : Int)))) (p := (decide ((rd w (w64 ((w.length : Int) - 1))) = 0))) rfl rfl rfl) <| Qb ?_
 rcases its he with ⟨c9, he⟩ | ⟨c9, he⟩
 ·
  refine QE rfl c9 <| QH <| Xa <| QU rfl <| wM v_w rfl rfl <| wM v_w rfl rfl <| w_d rfl (Xr Tryz.underlying22 rfl h_w.src) <| w_d rfl (YD (c := w64 ((w.length : Int) - 1)) rfl rfl rfl) <| rK he fun c10 he => w_a rfl (Gn (kd := kU32) Tryz.underlying22 sz167 rfl h_w (.inl ⟨rfl, rfl⟩) (.inr ⟨_, _, rfl, rfl⟩) c10) ?_
  rintro v11 _ _ ⟨h12, rfl, rfl⟩
  refine wA v11 rfl rfl <| Qb <| XC <| XL <| w_sl 0 (v11) rfl <| w_sl 2 (.slice none 0 0) rfl <| hh.l0 hle he h12
 ·
  refine QF rfl (Bool.eq_false_iff.2 c9) <| X8 rfl <| wR rfl <| wM v_w rfl rfl <| wA v_w rfl rfl <| Qb ?_
  obtain rfl := sj he
  refine Qn fn_113 rs_113 (.tmp (v := v_w) rfl .nil) <| ⟨⟨[], rfl⟩, hle, h_w⟩
theorem QS.ok : ∀ k, QS.OK (QS.hs k)
 | 0 => ⟨(by intros; exact nomatch (show none = some _ from by assumption))⟩
 | k + 1 => ⟨QS.b0_ok (k := k) (QS.ok k)⟩
theorem QS.calls (k : Nat) {H : Hp} {L : Items} {w : List Int} {v0_w : Value} {r : (List Int)} (he : QS.f k w = some r) (h0_w : Ro kU32 H v0_w w) : Ct Tryz.prog 113 ⟨[v0_w]⟩ H L (cR H L (QS.out r)) := by
 refine XO (O := QS.out r) ?_
 have hle : H.le H := .refl _
 have hh := QS.ok k
 unfold QS.f at he
 refine QV (args := [_]) fn_113 rfl nt_113 rfl <| wR rfl <| wA (.slice none 0 0) rfl rfl <| wE <| Xa <| X9 <| w_sl 0 (v0_w) rfl <| w_sl 2 (.slice none 0 0) rfl <| hh.l0 hle he h0_w
noncomputable def Qw.C : Code := (Tryz.f144.body).getD .skip
abbrev Qw.out (r : (List Int)) (H : Hp) (v : Value) : Prop := Ro kU32 H v r
abbrev Qw.R (H0 : Hp) (L : Items) (r : (List Int)) := fR H0 L (Qw.out r)
structure Qw.Hs where
 l0 : (List Int) → (List Int) → Int → (List Int) → Int → Int → Option (List Int)
noncomputable def Qw.j1 (k : Nat) (h : Qw.Hs) (a b : List Int) : Option (List Int) := if 0 ≤ 0 ∧ 0 ≤ w64 ((a.length : Int) + 1) ∧ w64 ((a.length : Int) + 1) ≤ 70368744177664 then (h.l0 b (List.replicate (0 : Int).toNat (0 : Int)) 0 a (a.length : Int) 0) else none
noncomputable def Qw.j3 (k : Nat) (h : Qw.Hs) (b out : List Int) (carry s : Int) (t21 : List Int) (t22 t23 : Int) : Option (List Int) := if out.length + 1 ≤ 35184372088704 then (h.l0 b (out ++ [(s) % 4294967296]) (s / 4294967296) t21 t22 (w64 (t23 + 1))) else none
noncomputable def Qw.b0 (k : Nat) (h : Qw.Hs) (b out : List Int) (carry : Int) (t21 : List Int) (t22 t23 : Int) : Option (List Int) := if t23 < t22 then (if (0 : Int) ≤ t23 ∧ t23 < (t21.length : Int) then (if t23 < (b.length : Int) then (if (0 : Int) ≤ t23 ∧ t23 < (b.length : Int) then (Qw.j3 k h b out carry ((((((rd t21 t23) % 18446744073709551616) + carry) % 18446744073709551616) + ((rd b t23) % 18446744073709551616)) % 18446744073709551616) t21 t22 t23) else none) else (Qw.j3 k h b out carry ((((rd t21 t23) % 18446744073709551616) + carry) % 18446744073709551616) t21 t22 t23)) else none) else (if out.length + 1 ≤ 35184372088704 then (some (out ++ [(carry) % 4294967296])) else none)
noncomputable def Qw.hs : Nat → Qw.Hs
 | 0 => ⟨fun _ _ _ _ _ _ => none⟩
 | k + 1 => ⟨fun x0 x1 x2 x3 x4 x5 => Qw.b0 k (Qw.hs k) x0 x1 x2 x3 x4 x5⟩
noncomputable def Qw.f (k : Nat) (a b : List Int) : Option (List Int) := (fun h : Qw.Hs => if (a.length : Int) < (b.length : Int) then (Qw.j1 k h b a) else (Qw.j1 k h a b)) (Qw.hs k)
structure Qw.LE (h h' : Qw.Hs) : Prop where
 l0 : ∀ y0 y1 y2 y3 y4 y5, LeO (h.l0 y0 y1 y2 y3 y4 y5) (h'.l0 y0 y1 y2 y3 y4 y5)
theorem Qw.j1_mono {k : Nat} {h h' : Qw.Hs} (hl : Qw.LE h h') : ∀ y0 y1, LeO (Qw.j1 k h y0 y1) (Qw.j1 (k + 1) h' y0 y1) := fun _ _ => (LeO.ite (hl.l0 _ _ _ _ _ _) (LeO.refl _))
theorem Qw.j3_mono {k : Nat} {h h' : Qw.Hs} (hl : Qw.LE h h') : ∀ y0 y1 y2 y3 y4 y5 y6, LeO (Qw.j3 k h y0 y1 y2 y3 y4 y5 y6) (Qw.j3 (k + 1) h' y0 y1 y2 y3 y4 y5 y6) := fun _ _ _ _ _ _ _ => (LeO.ite (hl.l0 _ _ _ _ _ _) (LeO.refl _))
theorem Qw.b0_mono {k : Nat} {h h' : Qw.Hs} (hl : Qw.LE h h') : ∀ y0 y1 y2 y3 y4 y5, LeO (Qw.b0 k h y0 y1 y2 y3 y4 y5) (Qw.b0 (k + 1) h' y0 y1 y2 y3 y4 y5) := fun _ _ _ _ _ _ => (LeO.ite (LeO.ite (LeO.ite (LeO.ite (Qw.j3_mono (k := k) hl _ _ _ _ _ _ _) (LeO.refl _)) (Qw.j3_mono (k := k) hl _ _ _ _ _ _ _)) (LeO.refl _)) (LeO.ite (LeO.refl _) (LeO.refl _)))
theorem Qw.hs_mono : ∀ k, Qw.LE (Qw.hs k) (Qw.hs (k + 1))
 | 0 => ⟨fun _ _ _ _ _ _ => LeO.none _⟩
 | k + 1 => ⟨Qw.b0_mono (k := k) (Qw.hs_mono k)⟩
theorem Qw.mono : ∀ k y0 y1, LeO (Qw.f k y0 y1) (Qw.f (k + 1) y0 y1) := fun k _ _ => have hl := Qw.hs_mono k; by unfold Qw.f; exact (LeO.ite (Qw.j1_mono (k := k) hl _ _) (Qw.j1_mono (k := k) hl _ _))
noncomputable def Qw.Kj1 : List Item := .code (seqR (seqR Qw.C)) :: []
noncomputable def Qw.Kl0 : List Item := .code (lopB (blkB (seqR (seqL (seqR (seqR (seqR (seqR Qw.C)))))))) :: .inLoop (lopB (blkB (seqR (seqL (seqR (seqR (seqR (seqR Qw.C)))))))) :: .inBlock 0 :: .code (seqR (seqR (seqR (seqR (seqR Qw.C))))) :: []
noncomputable def Qw.Kj3 : List Item := .code (seqR (seqR (seqR (blkB (seqL (seqR (seqR (lopB (blkB (seqR (seqL (seqR (seqR (seqR (seqR Qw.C))))))))))))))) :: .inBlock 1 :: .code (seqR (seqR (seqR (lopB (blkB (seqR (seqL (seqR (seqR (seqR (seqR Qw.C))))))))))) :: .inLoop (lopB (blkB (seqR (seqL (seqR (seqR (seqR (seqR Qw.C)))))))) :: .inBlock 0 :: .code (seqR (seqR (seqR (seqR (seqR Qw.C))))) :: []
structure Qw.OK (h : Qw.Hs) : Prop where
 l0 : ∀ {H0 H : Hp} {L : Items} {r : (List Int)} {jk_ : Nat → Value} {b : List Int} {out : List Int} {carry : Int} {t21 : List Int} {t22 : Int} {t23 : Int} {v_b : Value} {v_out : Value} {v_t21 : Value} {i_out : Item'} (_ : H0.le H) (_he : h.l0 b out carry t21 t22 t23 = some r) (_h_b : Src kU32 H L v_b b) (_h_out : Sl kU32 H 167 i_out v_out out) (_h_t21 : Src kU32 H L v_t21 t21), Wp Tryz.prog 144 56 Qw.Kl0 (upd (upd (upd (upd (upd (upd (upd jk_ 1 (v_b)) 4 (.slice none 0 0)) 5 (v_out)) 6 (.int .u64 carry)) 21 (v_t21)) 22 (.int .i64 t22)) 23 (.int .i64 t23)) H (i_out :: L) (Qw.R H0 L r)
theorem Qw.j1_ok {k : Nat} {h : Qw.Hs} (hh : Qw.OK h) {H0 H : Hp} {L : Items} {r : (List Int)} {jk_ : Nat → Value} {a b : List Int} {v_a v_b : Value} (hle : H0.le H) (he : Qw.j1 k h a b = some r) (h_a : Src kU32 H L v_a a) (h_b : Src kU32 H L v_b b) : Wp Tryz.prog 144 56 Qw.Kj1 (upd (upd (upd jk_ 0 (v_a)) 1 (v_b)) 4 (.slice none 0 0)) H (L) (Qw.R H0 L r) := by
 unfold Qw.j1 at he
 unfold Qw.Kj1
 refine wR rfl <| wM v_a rfl rfl <| w_d rfl (Xr Tryz.underlying22 rfl h_a) <| w_d rfl (XR (c := w64 ((a.length : Int) + 1)) rfl rfl rfl) <| rK he fun c2 he => w_a rfl (o_make' (kd := kU32) (z0 := 0) Tryz.underlying22 ti167 (zp167 _) rfl rfl (by omega) (by omega) (by omega)) ?_
 rintro v3 _ _ ⟨i4, rfl, rfl, h5⟩
 refine wA v3 rfl rfl <| wQ rfl <| wA (.int .u64 0) rfl rfl <| wE <| wR rfl <| wM v_a rfl rfl <| w_d rfl (Xr Tryz.underlying22 rfl h_a.th) <| wM (.int .i64 0) rfl rfl ?_
 refine Qb <| Xa <| X9 <| w_sl 1 (v_b) rfl <| w_sl 4 (.slice none 0 0) rfl <| w_sl 5 (v3) rfl <| w_sl 6 (.int .u64 0) rfl <| w_sl 21 (v_a) rfl <| w_sl 22 (.int .i64 (a.length : Int)) rfl <| w_sl 23 (.int .i64 0) rfl <| hh.l0 hle he h_b h5 h_a
theorem Qw.j3_ok {k : Nat} {h : Qw.Hs} (hh : Qw.OK h) {H0 H : Hp} {L : Items} {r : (List Int)} {jk_ : Nat → Value} {b out : List Int} {carry s : Int} {t21 : List Int} {t22 t23 : Int} {v_b v_out v_t21 : Value} {i_out : Item'} (hle : H0.le H) (he : Qw.j3 k h b out carry s t21 t22 t23 = some r) (h_b : Src kU32 H L v_b b) (h_out : Sl kU32 H 167 i_out v_out out) (h_t21 : Src kU32 H L v_t21 t21) : Wp Tryz.prog 144 56 Qw.Kj3 (upd (upd (upd (upd (upd (upd (upd (upd jk_ 1 (v_b)) 4 (.slice none 0 0)) 5 (v_out)) 6 (.int .u64 carry)) 9 (.int .u64 s)) 21 (v_t21)) 22 (.int .i64 t22)) 23 (.int .i64 t23)) H (i_out :: L) (Qw.R H0 L r) := by
 unfold Qw.j3 at he
 unfold Qw.Kj3
 refine wR rfl <| wM v_out rfl rfl <| wM (.int .u64 s) rfl rfl <| w_d rfl (X7 (c := (s) % 4294967296) Tryz.underlying113 Tryz.underlying167 rfl rfl) <| w_a rfl (o_buildSlice' (kd := kU32) (css := [[.int .u32 ((s) % 4294967296)]]) (xs := [(s) % 4294967296]) (parts := [(0, .int .u32 ((s) % 4294967296))]) Tryz.underlying22 ti167 rfl ⟨_, _, rfl, rfl, rfl⟩ ⟨rfl, trivial⟩ rfl (by decide)) ?_
 rintro v20 _ _ ⟨i21, rfl, rfl, h22⟩
 refine rK he fun c23 he => w_a rfl (o_append' (kd := kU32) (F := fun z_ => i21 :: z_ :: L) Tryz.underlying22 Tryz.underlying22 ti167 rfl (by first | omega | (simp only [List.nil_append, List.length_cons, List.length_nil]; omega)) rfl rfl h_out (h22.src .here) (fun _ => .h1)) ?_
 rintro v24 _ _ ⟨i25, rfl, rfl, h26⟩
 refine wA v24 rfl rfl <| Qb <| QU rfl <| wM (.int .u64 s) rfl rfl <| w_d rfl (Z1 (c := s / 4294967296) rfl rfl (by decide) rfl) <| wA (.int .u64 (s / 4294967296)) rfl rfl <| Qb <| XC <| QU rfl <| w_d rfl (XR (c := w64 (t23 + 1)) rfl rfl rfl) <| wM (.int .i64 (w64 (t23 + 1))) rfl rfl <| Qb ?_
 refine XL <| YB .here <| w_sl 1 (v_b) rfl <| w_sl 4 (.slice none 0 0) rfl <| w_sl 5 (v24) rfl <| w_sl 6 (.int .u64 (s / 4294967296)) rfl <| w_sl 21 (v_t21) rfl <| w_sl 22 (.int .i64 t22) rfl <| w_sl 23 (.int .i64 (w64 (t23 + 1))) rfl <| hh.l0 hle he h_b h26 h_t21
theorem Qw.b0_ok {k : Nat} {h : Qw.Hs} (hh : Qw.OK h) {H0 H : Hp} {L : Items} {r : (List Int)} {jk_ : Nat → Value} {b out : List Int} {carry : Int} {t21 : List Int} {t22 t23 : Int} {v_b v_out v_t21 : Value} {i_out : Item'} (hle : H0.le H) (he : Qw.b0 k h b out carry t21 t22 t23 = some r) (h_b : Src kU32 H L v_b b) (h_out : Sl kU32 H 167 i_out v_out out) (h_t21 : Src kU32 H L v_t21 t21) : Wp Tryz.prog 144 56 Qw.Kl0 (upd (upd (upd (upd (upd (upd (upd jk_ 1 (v_b)) 4 (.slice none 0 0)) 5 (v_out)) 6 (.int .u64 carry)) 21 (v_t21)) 22 (.int .i64 t22)) 23 (.int .i64 t23)) H (i_out :: L) (Qw.R H0 L r) := by
 unfold Qw.b0 at he
 unfold Qw.Kl0
 refine wR rfl <| w_d rfl (XY rfl rfl) <| wE ?_
 rcases its he with ⟨c6, he⟩ | ⟨c6, he⟩
 ·
  refine QE rfl (dt c6) <| QH <| Q0 <| Xa <| wR rfl <| wM (.int .i64 t23) rfl rfl <| rK he fun c7 he => w_d rfl (XK (sz := 1) Tryz.underlying22 sz167 rfl h_t21.th rfl c7) <| w_d rfl (XP ty167 rfl h_t21.th c7) <| wA (.int .i64 t23) rfl rfl <| wA (.int .u32 (rd t21 t23)) rfl rfl ?_
  refine wQ rfl <| wM (.int .u32 (rd t21 t23)) rfl rfl <| w_d rfl (X7 (c := (rd t21 t23) % 18446744073709551616) Tryz.underlying167 Tryz.underlying113 rfl rfl) <| wM (.int .u64 carry) rfl rfl <| w_d rfl (XR (c := (((rd t21 t23) % 18446744073709551616) + carry) % 18446744073709551616) rfl rfl rfl) <| wA (.int .u64 ((((rd t21 t23) % 18446744073709551616) + carry) % 18446744073709551616)) rfl rfl <| wE <| wR rfl ?_
  refine wM (.int .i64 t23) rfl rfl <| wM v_b rfl rfl <| w_d rfl (Xr Tryz.underlying22 rfl h_b.th) <| w_d rfl (XY rfl rfl) <| Qb ?_
  rcases its he with ⟨c8, he⟩ | ⟨c8, he⟩
  ·
   refine QE rfl (dt c8) <| QU rfl <| wM (.int .u64 ((((rd t21 t23) % 18446744073709551616) + carry) % 18446744073709551616)) rfl rfl <| wM v_b rfl rfl <| wM (.int .i64 t23) rfl rfl <| rK he fun c9 he => w_d rfl (XK (sz := 1) Tryz.underlying22 sz167 rfl h_b.th rfl c9) <| w_d rfl (XP ty167 rfl h_b.th c9) <| w_d rfl (X7 (c := (rd b t23) % 18446744073709551616) Tryz.underlying167 Tryz.underlying113 rfl rfl) <| w_d rfl (XR (c := (((((rd t21 t23) % 18446744073709551616) + carry) % 18446744073709551616) + ((rd b t23) % 18446744073709551616)) % 18446744073709551616) rfl rfl rfl) <| wA (.int .u64 ((((((rd t21 t23) % 18446744073709551616) + carry) % 18446744073709551616) + ((rd b t23) % 18446744073709551616)) % 18446744073709551616)) rfl rfl <| Qb ?_
   refine w_sl 1 (v_b) rfl <| w_sl 4 (.slice none 0 0) rfl <| w_sl 5 (v_out) rfl <| w_sl 6 (.int .u64 carry) rfl <| w_sl 9 (.int .u64 ((((((rd t21 t23) % 18446744073709551616) + carry) % 18446744073709551616) + ((rd b t23) % 18446744073709551616)) % 18446744073709551616)) rfl <| w_sl 21 (v_t21) rfl <| w_sl 22 (.int .i64 t22) rfl <| w_sl 23 (.int .i64 t23) rfl <| Qw.j3_ok (k := k) hh hle he h_b h_out h_t21
  ·
   refine QF rfl (df c8) <| QH <| w_sl 1 (v_b) rfl <| w_sl 4 (.slice none 0 0) rfl <| w_sl 5 (v_out) rfl <| w_sl 6 (.int .u64 carry) rfl <| w_sl 9 (.int .u64 ((((rd t21 t23) % 18446744073709551616) + carry) % 18446744073709551616)) rfl <| w_sl 21 (v_t21) rfl <| w_sl 22 (.int .i64 t22) rfl <| w_sl 23 (.int .i64 t23) rfl <| Qw.j3_ok (k := k) hh hle he h_b h_out h_t21
 ·
  refine QF rfl (df c6) <| X8 rfl <| wR rfl <| wM v_out rfl rfl <| wM (.int .u64 carry) rfl rfl <| w_d rfl (X7 (c := (carry) % 4294967296) Tryz.underlying113 Tryz.underlying167 rfl rfl) <| w_a rfl (o_buildSlice' (kd := kU32) (css := [[.int .u32 ((carry) % 4294967296)]]) (xs := [(carry) % 4294967296]) (parts := [(0, .int .u32 ((carry) % 4294967296))]) Tryz.underlying22 ti167 rfl ⟨_, _, rfl, rfl, rfl⟩ ⟨rfl, trivial⟩ rfl (by decide)) ?_
  rintro v10 _ _ ⟨i11, rfl, rfl, h12⟩
  refine rK he fun c13 he => w_a rfl (o_append' (kd := kU32) (F := fun z_ => i11 :: z_ :: L) Tryz.underlying22 Tryz.underlying22 ti167 rfl (by first | omega | (simp only [List.nil_append, List.length_cons, List.length_nil]; omega)) rfl rfl h_out (h12.src .here) (fun _ => .h1)) ?_
  rintro v14 _ _ ⟨i15, rfl, rfl, h16⟩
  refine wA v14 rfl rfl <| Qb <| YA h16 .h1 ?_
  intro H17 e18 h19
  obtain rfl := sj he
  refine Qn fn_144 rs_144 (.tmp (v := v14) rfl .nil) <| ⟨⟨[_, _], rfl⟩, hle.trans e18, h19⟩
theorem Qw.ok : ∀ k, Qw.OK (Qw.hs k)
 | 0 => ⟨(by intros; exact nomatch (show none = some _ from by assumption))⟩
 | k + 1 => ⟨Qw.b0_ok (k := k) (Qw.ok k)⟩
theorem Qw.calls (k : Nat) {H : Hp} {L : Items} {a b : List Int} {v0_a v1_b : Value} {r : (List Int)} (he : Qw.f k a b = some r) (h0_a : Src kU32 H L v0_a a) (h1_b : Src kU32 H L v1_b b) : Ct Tryz.prog 144 ⟨[v0_a, v1_b]⟩ H L (cR H L (Qw.out r)) := by
 refine XO (O := Qw.out r) ?_
 have hle : H.le H := .refl _
 have hh := Qw.ok k
 unfold Qw.f at he
 refine QV (args := [_, _]) fn_144 rfl nt_144 rfl <| wR rfl <| wA (.slice none 0 0) rfl rfl <| wE <| wR rfl <| wM v0_a rfl rfl <| w_d rfl (Xr Tryz.underlying22 rfl h0_a) <| wM v1_b rfl rfl <| w_d rfl (Xr Tryz.underlying22 rfl h1_b) ?_
 refine w_d rfl (XY rfl rfl) <| Qb ?_
 rcases its he with ⟨c1, he⟩ | ⟨c1, he⟩
 ·
  refine QE rfl (dt c1) <| QU rfl <| wM v1_b rfl rfl <| wM v0_a rfl rfl <| wA v1_b rfl rfl <| wA v0_a rfl rfl <| Qb <| w_sl 0 (v1_b) rfl <| w_sl 1 (v0_a) rfl <| w_sl 4 (.slice none 0 0) rfl <| Qw.j1_ok (k := k) hh hle he h1_b h0_a
 ·
  refine QF rfl (df c1) <| QH <| w_sl 0 (v0_a) rfl <| w_sl 1 (v1_b) rfl <| w_sl 4 (.slice none 0 0) rfl <| Qw.j1_ok (k := k) hh hle he h0_a h1_b
noncomputable def XG.C : Code := (Tryz.f115.body).getD .skip
def XG.out (r : Qs × (Option Int)) (H : Hp) (v : Value) : Prop := ∃ v0, v = .tuple ⟨[(Qc r.1 v0), errV 104 r.2]⟩ ∧ Ro kU32 H v0 r.1.f_w
theorem XG.out_mono (r : Qs × (Option Int)) {H H' : Hp} {v : Value} (hle : H.le H') (h : XG.out r H v) : XG.out r H' v := by
 obtain ⟨v0, rfl, h0⟩ := h; exact ⟨v0, rfl, h0.mono hle⟩
noncomputable def XG.f (k : Nat) (neg : Bool) (w : List Int) : Option (Qs × (Option Int)) := (QS.f k w).bind fun y2 => if 128 < (y2.length : Int) then (some (⟨false, []⟩, some 12)) else (some (⟨neg && (decide (0 < (y2.length : Int))), y2⟩, none))
theorem XG.mono : ∀ k y0 y1, LeO (XG.f k y0 y1) (XG.f (k + 1) y0 y1) := fun k _ _ => by unfold XG.f; exact (LeO.bind (QS.mono k _) fun _ => LeO.ite (LeO.refl _) (LeO.refl _))
theorem XG.calls (k : Nat) {H : Hp} {L : Items} {neg : Bool} {w : List Int} {v0_w : Value} {r : Qs × (Option Int)} (he : XG.f k neg w = some r) (h0_w : Ro kU32 H v0_w w) : Ct Tryz.prog 115 ⟨[.bool neg, v0_w]⟩ H L (cR H L (XG.out r)) := by
 refine XO (O := XG.out r) ?_
 have hle : H.le H := .refl _
 unfold XG.f at he
 refine QV (args := [_, _]) fn_115 rfl nt_115 rfl <| wR rfl <| wN zr24 rfl rfl fun b1 => wA (errV 104 none) rfl rfl <| wQ rfl <| wM v0_w rfl rfl <| bK he fun y2 hy3 he => w_a rfl (Qm co113 (vs := [v0_w]) rfl (QS.calls k hy3 h0_w)) ?_
 rintro v6 H4 _ ⟨rfl, e5, h7⟩
 refine wA v6 rfl rfl <| wE <| wR rfl <| wM v6 rfl rfl <| w_d rfl (Xr Tryz.underlying22 rfl h7.src) <| w_d rfl (YR rfl rfl) <| Qb ?_
 rcases its he with ⟨c8, he⟩ | ⟨c8, he⟩
 ·
  refine QE rfl (dt c8) <| wR rfl <| w_d rfl (XF (cs' := [.bool false, .slice none 0 0]) Tryz.underlying24 zr24 rfl (by kernel_rfl) (parts := []) rfl .nil) <| w_d rfl (Zk (v := .int .i64 12) Tryz.underlying104 rfl rfl) <| wS (.agg ⟨[.bool false, .slice none 0 0]⟩) sz24 rfl rfl rfl rfl rfl (oc rfl (oc rfl oz)) .here u2 <| wA (errV 104 (some 12)) rfl rfl <| Qb ?_
  obtain rfl := sj he
  refine Qn fn_115 rs_115 (.box (v := .agg ⟨[.bool false, .slice none 0 0]⟩) rfl ty24 rfl rfl .here rfl (.tmp (v := errV 104 (some 12)) rfl .nil)) <| ⟨⟨[_], rfl⟩, hle.trans e5, ⟨.slice none 0 0, rfl, (Xg _ _)⟩⟩
 ·
  refine QF rfl (df c8) <| QH <| wR rfl <| wM (.bool neg) rfl rfl <| wM (.bool neg) rfl rfl <| w_g (g := neg) rfl rfl rfl wn_t (fun g9 => QW (v := v6) rfl) <| w_g (g := neg) rfl rfl rfl wn_t (fun g10 => Xr Tryz.underlying22 (cvt g10) h7.src) <| w_g (g := neg) rfl rfl rfl wn_t (fun g11 => YR (cvt g11) rfl) <| w_d rfl (d_and' (b := neg) (p := (decide (0 < (y2.length : Int)))) rfl rfl rfl) <| wM v6 rfl rfl <| w_d rfl (XF (cs' := [.bool (neg && (decide (0 < (y2.length : Int)))), v6]) Tryz.underlying24 zr24 rfl (by kernel_rfl) (parts := [(0, .bool (neg && (decide (0 < (y2.length : Int))))), (1, v6)]) rfl (.cons (YF rfl sz4 rfl) rfl rfl u1 (.cons (YF rfl sz22 rfl) h7.cells rfl (.there u1) .nil))) ?_
  refine wS (.agg ⟨[.bool (neg && (decide (0 < (y2.length : Int)))), v6]⟩) sz24 rfl rfl rfl rfl rfl (oc rfl (oc (h7.one) oz)) .here u2 <| wA (errV 104 none) rfl rfl <| Qb ?_
  obtain rfl := sj he
  refine Qn fn_115 rs_115 (.box (v := .agg ⟨[.bool (neg && (decide (0 < (y2.length : Int)))), v6]⟩) rfl ty24 rfl rfl .here rfl (.tmp (v := errV 104 none) rfl .nil)) <| ⟨⟨[_], rfl⟩, hle.trans e5, ⟨v6, rfl, h7⟩⟩
end Go.Proofs.YtkccpkccdbfomaaGreatDoor.GBA

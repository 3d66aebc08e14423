/- printed by gen.py -/
import Derived.Test.YtkccpkccdbfomaaGreatDoorGSSx0
namespace Go.Proofs.YtkccpkccdbfomaaGreatDoor.GSS
open Go Go.RowKit Go.Proofs.YtkccpkccdbfomaaGreatDoorK Go.Proofs.YtkccpkccdbfomaaGreatDoor
set_option maxRecDepth 100000
set_option maxHeartbeats 2000000
set_option linter.unusedVariables false
set_option linter.unusedSimpArgs false
noncomputable def Qy.C : Code := (Tryz.f65.body).getD .skip
def Qy.out (r : Qh × Qh) (H : Hp) (v : Value) : Prop := ∃ v0 v1, v = .tuple ⟨[(Qb r.1 v0), (Qb r.2 v1)]⟩ ∧ Ro kI64 H v0 r.1.f_D ∧ Ro kI64 H v1 r.2.f_D
abbrev Qy.R (H0 : Hp) (L : Items) (r : Qh × Qh) := fR H0 L (Qy.out r)
structure Qy.Hs where
 l0 : Bool → (List Int) → Bool → (List Int) → (List Int) → (List Int) → Int → Option (Qh × Qh)
 l1 : Bool → (List Int) → Bool → (List Int) → (List Int) → (List Int) → Int → Option (Qh × Qh)
noncomputable def Qy.b0 (k : Nat) (h : Qy.Hs) (a_0 : Bool) (a_1 : List Int) (b_0 : Bool) (b_1 rest q : List Int) (i : Int) : Option (Qh × Qh) := if 0 ≤ i then (if (0 : Int) ≤ i ∧ i < (a_1.length : Int) then (if [rd a_1 i].length + rest.length ≤ 17592186044288 then ((QT.f k ([rd a_1 i] ++ rest)).bind fun y21 => h.l1 a_0 a_1 b_0 b_1 y21 q i) else none) else none) else ((QT.f k q).bind fun y30 => (XA.f k (!(a_0 == b_0)) y30).bind fun y36 => (XA.f k false rest).bind fun y45 => if (a_0 && (decide (0 < (rest.length : Int)))) = true then ((Ql.f k b_1 rest).bind fun y56 => (XA.f k false y56).bind fun y62 => if b_0 = true then ((Qv.f k 1).bind fun y69 => (XV.f k y36 y69).bind fun y77 => some (y77, y62)) else ((Qv.f k 1).bind fun y85 => (YS.f k y36 y85).bind fun y93 => some (y93, y62))) else (some (y36, y45)))
noncomputable def Qy.b1 (k : Nat) (h : Qy.Hs) (a_0 : Bool) (a_1 : List Int) (b_0 : Bool) (b_1 rest q : List Int) (i : Int) : Option (Qh × Qh) := (Q1.f k rest b_1).bind fun y103 => if (!y103) = true then ((Ql.f k rest b_1).bind fun y108 => if (0 : Int) ≤ i ∧ i < (q.length : Int) then (if (0 : Int) ≤ i ∧ i < (q.length : Int) then (h.l1 a_0 a_1 b_0 b_1 y108 (q.set (i : Int).toNat (w64 ((rd q i) + 1))) i) else none) else none) else (h.l0 a_0 a_1 b_0 b_1 rest q (w64 (i - 1)))
noncomputable def Qy.hs : Nat → Qy.Hs
 | 0 => ⟨fun _ _ _ _ _ _ _ => none, fun _ _ _ _ _ _ _ => none⟩
 | k + 1 => ⟨fun x0 x1 x2 x3 x4 x5 x6 => Qy.b0 k (Qy.hs k) x0 x1 x2 x3 x4 x5 x6, fun x0 x1 x2 x3 x4 x5 x6 => Qy.b1 k (Qy.hs k) x0 x1 x2 x3 x4 x5 x6⟩
noncomputable def Qy.f (k : Nat) (a b : Qh) : Option (Qh × Qh) := (fun h : Qy.Hs => if 0 ≤ (a.f_D.length : Int) ∧ (a.f_D.length : Int) ≤ 35184372088832 then (h.l0 a.f_Neg a.f_D b.f_Neg b.f_D [] (List.replicate ((a.f_D.length : Int) : Int).toNat (0 : Int)) (w64 ((a.f_D.length : Int) - 1))) else none) (Qy.hs k)
noncomputable def Qy.Kl0 : List Item := .code (lopB (blkB (seqR (seqL (seqR (seqR (seqR Qy.C))))))) :: .inLoop (lopB (blkB (seqR (seqL (seqR (seqR (seqR Qy.C))))))) :: .inBlock 0 :: .code (seqR (seqR (seqR (seqR Qy.C)))) :: []
noncomputable def Qy.Kl1 : List Item := .code (lopB (blkB (seqR (blkB (seqL (seqR (lopB (blkB (seqR (seqL (seqR (seqR (seqR Qy.C))))))))))))) :: .inLoop (lopB (blkB (seqR (blkB (seqL (seqR (lopB (blkB (seqR (seqL (seqR (seqR (seqR Qy.C))))))))))))) :: .inBlock 2 :: .inBlock 1 :: .code (seqR (seqR (lopB (blkB (seqR (seqL (seqR (seqR (seqR Qy.C))))))))) :: .inLoop (lopB (blkB (seqR (seqL (seqR (seqR (seqR Qy.C))))))) :: .inBlock 0 :: .code (seqR (seqR (seqR (seqR Qy.C)))) :: []
structure Qy.OK (h : Qy.Hs) : Prop where
 l0 : ∀ {H0 H : Hp} {L : Items} {r : Qh × Qh} {jk_ : Nat → Value} {a_0 : Bool} {a_1 : List Int} {b_0 : Bool} {b_1 : List Int} {rest : List Int} {q : List Int} {i : Int} {v_a_1 : Value} {v_b_1 : Value} {v_rest : Value} {v_q : Value} {i_q : Item'} {b_a : Nat} {b_b : Nat} {b_t4 : Nat} {b_t5 : Nat} (_ : H0.le H) (_he : h.l0 a_0 a_1 b_0 b_1 rest q i = some r) (_h_a_1 : Ro kI64 H v_a_1 a_1) (_h_b_1 : Ro kI64 H v_b_1 b_1) (_h_rest : Ro kI64 H v_rest rest) (_h_q : Sl kI64 H 3 i_q v_q q), Wp Tryz.prog 65 79 Qy.Kl0 (upd (upd (upd (upd (upd (upd (upd jk_ 2 (pt b_a)) 3 (pt b_b)) 4 (pt b_t4)) 5 (pt b_t5)) 6 (v_rest)) 7 (v_q)) 8 (.int .i64 i)) H (i_q :: bx b_t5 [.bool false, .slice none 0 0] 37 :: bx b_t4 [.bool false, .slice none 0 0] 37 :: bx b_b [.bool b_0, v_b_1] 37 :: bx b_a [.bool a_0, v_a_1] 37 :: L) (Qy.R H0 L r)
 l1 : ∀ {H0 H : Hp} {L : Items} {r : Qh × Qh} {jk_ : Nat → Value} {a_0 : Bool} {a_1 : List Int} {b_0 : Bool} {b_1 : List Int} {rest : List Int} {q : List Int} {i : Int} {v_a_1 : Value} {v_b_1 : Value} {v_rest : Value} {v_q : Value} {i_q : Item'} {b_a : Nat} {b_b : Nat} {b_t4 : Nat} {b_t5 : Nat} (_ : H0.le H) (_he : h.l1 a_0 a_1 b_0 b_1 rest q i = some r) (_h_a_1 : Ro kI64 H v_a_1 a_1) (_h_b_1 : Ro kI64 H v_b_1 b_1) (_h_rest : Ro kI64 H v_rest rest) (_h_q : Sl kI64 H 3 i_q v_q q), Wp Tryz.prog 65 79 Qy.Kl1 (upd (upd (upd (upd (upd (upd (upd jk_ 2 (pt b_a)) 3 (pt b_b)) 4 (pt b_t4)) 5 (pt b_t5)) 6 (v_rest)) 7 (v_q)) 8 (.int .i64 i)) H (i_q :: bx b_t5 [.bool false, .slice none 0 0] 37 :: bx b_t4 [.bool false, .slice none 0 0] 37 :: bx b_b [.bool b_0, v_b_1] 37 :: bx b_a [.bool a_0, v_a_1] 37 :: L) (Qy.R H0 L r)
theorem Qy.b0_ok {k : Nat} {h : Qy.Hs} (hh : Qy.OK h) {H0 H : Hp} {L : Items} {r : Qh × Qh} {jk_ : Nat → Value} {a_0 : Bool} {a_1 : List Int} {b_0 : Bool} {b_1 rest q : List Int} {i : Int} {v_a_1 v_b_1 v_rest v_q : Value} {i_q : Item'} {b_a b_b b_t4 b_t5 : Nat} (hle : H0.le H) (he : Qy.b0 k h a_0 a_1 b_0 b_1 rest q i = some r) (h_a_1 : Ro kI64 H v_a_1 a_1) (h_b_1 : Ro kI64 H v_b_1 b_1) (h_rest : Ro kI64 H v_rest rest) (h_q : Sl kI64 H 3 i_q v_q q) : Wp Tryz.prog 65 79 Qy.Kl0 (upd (upd (upd (upd (upd (upd (upd jk_ 2 (pt b_a)) 3 (pt b_b)) 4 (pt b_t4)) 5 (pt b_t5)) 6 (v_rest)) 7 (v_q)) 8 (.int .i64 i)) H (i_q :: bx b_t5 [.bool false, .slice none 0 0] 37 :: bx b_t4 [.bool false, .slice none 0 0] 37 :: bx b_b [.bool b_0, v_b_1] 37 :: bx b_a [.bool a_0, v_a_1] 37 :: L) (Qy.R H0 L r) := by
 unfold Qy.b0 at he
 unfold Qy.Kl0
 refine QX <| wR rfl <| wM (.int .i64 i) rfl rfl <| w_d rfl (ZU rfl rfl) <| Qc ?_
 rcases its he with ⟨c9, he⟩ | ⟨c9, he⟩
 ·
  refine QB rfl (dt c9) <| QF <| QX <| Q8 <| wR rfl <| w_d rfl (QM (o' := 1) Tryz.underlying37 rfl sz35 rfl rfl rfl) <| wL v_a_1 ty35 rfl rfl .h4 rfl rfl <| wM (.int .i64 i) rfl rfl <| rK he fun c10 he => w_d rfl (XT (sz := 1) Tryz.underlying35 sz3 rfl h_a_1.src rfl c10) <| w_d rfl (XX ty3 rfl h_a_1.src c10) ?_
  refine w_a rfl (o_buildSlice' (kd := kI64) (css := [[.int .i64 (rd a_1 i)]]) (xs := [rd a_1 i]) (parts := [(0, .int .i64 (rd a_1 i))]) Tryz.underlying35 ti3 rfl ⟨_, _, rfl, rfl, rfl⟩ ⟨rfl, trivial⟩ rfl (by decide)) ?_
  rintro v11 _ _ ⟨i12, rfl, rfl, h13⟩
  refine wM v_rest rfl rfl <| rK he fun c14 he => w_a rfl (o_append' (kd := kI64) (F := fun z_ => z_ :: i_q :: bx b_t5 [.bool false, .slice none 0 0] 37 :: bx b_t4 [.bool false, .slice none 0 0] 37 :: bx b_b [.bool b_0, v_b_1] 37 :: bx b_a [.bool a_0, v_a_1] 37 :: L) Tryz.underlying35 Tryz.underlying35 ti3 rfl (by first | omega | (simp only [List.nil_append, List.length_cons, List.length_nil]; omega)) rfl rfl h13 h_rest.src (fun _ => .here)) ?_
  rintro v15 _ _ ⟨i16, rfl, rfl, h17⟩
  refine Y8 h17 .here ?_
  intro H18 e19 h20
  refine bK he fun y21 hy22 he => w_a rfl (Qj co67 (vs := [v15]) rfl (QT.calls k hy22 h20)) ?_
  rintro v25 H23 _ ⟨rfl, e24, h26⟩
  refine wA v25 rfl rfl <| Qc <| Q8 <| Ye <| Yw .here <| w_sl 2 (pt b_a) rfl <| w_sl 3 (pt b_b) rfl <| w_sl 4 (pt b_t4) rfl <| w_sl 5 (pt b_t5) rfl <| w_sl 6 (v25) rfl <| w_sl 7 (v_q) rfl <| w_sl 8 (.int .i64 i) rfl <| hh.l1 (hle.trans (e19.trans e24)) he (h_a_1.mono (e19.trans e24)) (h_b_1.mono (e19.trans e24)) h26 (h_q.mono (e19.trans e24))
 ·
  refine QI rfl (df c9) <| Ya rfl <| QX <| Y8 h_q .here ?_
  intro H27 e28 h29
  refine bK he fun y30 hy31 he => bK he fun y36 hy37 he => ?_
  refine YF (?_)
  refine Xv (p := 9) (tl := [9]) [[], [(0, some 47)], [], [(2, some 49)], [(1, some 48), (3, some 50)], [], [(5, some 52)], [(4, some 51), (6, some 53)], []] [some 47, some 48, some 49, some 50, some 51, some 52, some 53, some 54, some 9] (fctF (.is (pt b_a) :: .is (.bool a_0) :: .is (pt b_b) :: .is (.bool b_0) :: .is (.bool (!(a_0 == b_0))) :: .is (v_q) :: .ro kI64 (y30) :: .of (XA.out y36) (XA.out_mono _) :: .box 37 [.bool false, .slice none 0 0] :: [])) (fun m_ => m_ 8 :: none :: bx b_t5 [.bool false, .slice none 0 0] 37 :: bx b_t4 [.bool false, .slice none 0 0] 37 :: bx b_b [.bool b_0, v_b_1] 37 :: bx b_a [.bool a_0, v_a_1] 37 :: L) (fun _ => none) mixed (by kernel_rfl) (by kernel_rfl) rfl (Xn (by kernel_rfl)) ⟨(fun H' m_ hH hm_ hu_ => dn <| s_d (m_ 0) rfl (QM (o' := 0) Tryz.underlying37 rfl sz4 rfl rfl rfl) (by exact rfl) rfl), (by rintro H' m_ hH hm_ hu_ _ rfl; exact dn <| s_d (m_ 1) rfl (Qq (v := .bool a_0) ty4 rfl .h5 rfl rfl rfl rfl) (by exact rfl) rfl), (fun H' m_ hH hm_ hu_ => dn <| s_d (m_ 2) rfl (QM (o' := 0) Tryz.underlying37 rfl sz4 rfl rfl rfl) (by exact rfl) rfl), (by rintro H' m_ hH hm_ hu_ _ rfl; exact dn <| s_d (m_ 3) rfl (Qq (v := .bool b_0) ty4 rfl .h4 rfl rfl rfl rfl) (by exact rfl) rfl), (by rintro H' m_ hH hm_ hu_ _ rfl _ rfl; exact dn <| s_d (m_ 4) rfl (G4 (a := a_0) (b := b_0) Tryz.underlying4 rfl rfl) (by exact rfl) rfl), (fun H' m_ hH hm_ hu_ => dn <| s_d (m_ 5) rfl (QR (v := v_q) rfl) (by exact rfl) rfl), (by rintro H' m_ hH hm_ hu_ _ rfl; exact dn <| s_k (m_ 6) rfl (Qj co67 (vs := [v_q]) rfl (QT.calls k hy31 (h29.mono hH))) rfl (by rintro v_ H_ _ ⟨rfl, e_, h_⟩; exact ⟨rfl, e_, h_⟩)), (by rintro H' m_ hH hm_ hu_ _ rfl v34 (h35 : Ro kI64 H' v34 y30); exact dn <| s_k (m_ 7) rfl (Qj co66 (vs := [.bool (!(a_0 == b_0)), v34]) rfl (XA.calls k hy37 h35)) rfl (by rintro v_ H_ _ ⟨rfl, e_, h_⟩; exact ⟨rfl, e_, h_⟩)), (fun H' m_ hH hm_ hu_ => dn <| Ze hm_ rfl rfl (YJ zr37 rfl) rfl (fun _ => .here) (by exact fun b_ => ⟨b_, rfl, rfl⟩)), trivial⟩ ?_
  intro H43 e44
  rintro _ _ rfl _ _ rfl _ _ rfl _ _ rfl _ _ rfl _ _ rfl v34 _ (h35 : Ro kI64 H43 v34 y30) _ _ ⟨v40, rfl, h41⟩ _ _ ⟨b42, rfl, rfl⟩
  refine wS (Qb y36 v40) sz37 rfl rfl rfl rfl rfl (Q7 h41) .here u2 <| wQ rfl <| wM v_rest rfl rfl <| bK he fun y45 hy46 he => w_a rfl (Qj co66 (vs := [.bool false, v_rest]) rfl (XA.calls k hy46 (h_rest.mono (e28.trans e44)))) ?_
  rintro _ H47 _ ⟨rfl, e48, v49, rfl, h50⟩
  refine wN zr37 rfl rfl fun b51 => wS (Qb y45 v49) sz37 rfl rfl rfl rfl rfl (Q7 h50) .here u2 <| wE <| wR rfl <| w_d rfl (QM (o' := 0) Tryz.underlying37 rfl sz4 rfl rfl rfl) <| w_d rfl (Qq (v := .bool a_0) ty4 rfl .h6 rfl rfl rfl rfl) <| wM (.bool a_0) rfl rfl <| w_g (g := a_0) rfl rfl rfl wn_t (fun g52 => QR (v := v_rest) rfl) <| w_g (g := a_0) rfl rfl rfl wn_t (fun g53 => XL Tryz.underlying35 (cvt g53) (h_rest.mono ((e28.trans e44).trans e48)).src) <| w_g (g := a_0) rfl rfl rfl wn_t (fun g54 => Zi (cvt g54) rfl) ?_
  refine w_d rfl (d_and' (b := a_0) (p := (decide (0 < (rest.length : Int)))) rfl rfl rfl) <| Qc ?_
  rcases its he with ⟨c55, he⟩ | ⟨c55, he⟩
  ·
   refine QB rfl c55 <| wR rfl <| w_d rfl (QM (o' := 1) Tryz.underlying37 rfl sz35 rfl rfl rfl) <| w_d rfl (Qq (v := v_b_1) ty35 rfl .h5 rfl rfl rfl rfl) <| wM v_rest rfl rfl <| bK he fun y56 hy57 he => w_a rfl (Qj co70 (vs := [v_b_1, v_rest]) rfl (Ql.calls k hy57 ((h_b_1.mono ((e28.trans e44).trans e48)).src) ((h_rest.mono ((e28.trans e44).trans e48)).src))) ?_
   rintro v60 H58 _ ⟨rfl, e59, h61⟩
   refine bK he fun y62 hy63 he => w_a rfl (Qj co66 (vs := [.bool false, v60]) rfl (XA.calls k hy63 h61)) ?_
   rintro _ H64 _ ⟨rfl, e65, v66, rfl, h67⟩
   refine wS (Qb y62 v66) sz37 rfl rfl rfl rfl rfl (Q7 h67) .here u2 <| wQ rfl <| w_d rfl (QM (o' := 0) Tryz.underlying37 rfl sz4 rfl rfl rfl) <| w_d rfl (Qq (v := .bool b_0) ty4 rfl .h5 rfl rfl rfl rfl) <| Qc ?_
   rcases its he with ⟨c68, he⟩ | ⟨c68, he⟩
   ·
    refine QB rfl c68 <| bK he fun y69 hy70 he => Xv (p := 2) (tl := [2, 3]) [[], []] [some 71, some 72] (fctF (.is (Qb y36 v40) :: .of (Qv.out y69) (Qv.out_mono _) :: [])) (fun m_ => bx b51 (QN y62 v66) 37 :: bx b42 (QN y36 v40) 37 :: none :: bx b_t5 [.bool false, .slice none 0 0] 37 :: bx b_t4 [.bool false, .slice none 0 0] 37 :: bx b_b [.bool b_0, v_b_1] 37 :: bx b_a [.bool a_0, v_a_1] 37 :: L) (fun _ => none) mixed (by kernel_rfl) (by kernel_rfl) rfl (Xn (by kernel_rfl)) ⟨(fun H' m_ hH hm_ hu_ => dn <| s_d (m_ 0) rfl (Qq (v := (Qb y36 v40)) ty37 rfl .h1 rfl rfl rfl rfl) (by exact rfl) rfl), (fun H' m_ hH hm_ hu_ => dn <| s_k (m_ 1) rfl (Qj co16 (vs := [.int .i64 1]) rfl (Qv.calls k hy70)) rfl (by rintro v_ H_ _ ⟨rfl, e_, h_⟩; exact ⟨rfl, e_, h_⟩)), trivial⟩ ?_
    intro H75 e76
    rintro _ _ rfl _ _ ⟨v73, rfl, h74⟩
    refine bK he fun y77 hy78 he => w_a rfl (Qj co17 (vs := [(Qb y36 v40), (Qb y69 v73)]) rfl (XV.calls k (a := y36) (b := y69) hy78 (h41.mono (((e48.trans e59).trans e65).trans e76)) h74)) ?_
    rintro _ H79 _ ⟨rfl, e80, v81, rfl, h82⟩
    refine wS (Qb y77 v81) sz37 rfl rfl rfl rfl rfl (Q7 h82) .h1 u2 <| wE <| Xv (p := 3) (tl := [3]) [[], [], [(0, some 77)]] [some 77, some 78, none] (fctF (.is (Qb y77 v81) :: .is (Qb y62 v66) :: .itm (fun H itq_ => itq_ = bx b_t4 (QN y77 v81) 37) (by rintro _ _ _ hle rfl; exact rfl) :: [])) (fun m_ => bx b51 (QN y62 v66) 37 :: bx b42 (QN y77 v81) 37 :: none :: bx b_t5 [.bool false, .slice none 0 0] 37 :: m_ 2 :: bx b_b [.bool b_0, v_b_1] 37 :: bx b_a [.bool a_0, v_a_1] 37 :: L) (fun i_ => if i_ = 2 then bx b_t4 [.bool false, .slice none 0 0] 37 else none) mixed (by kernel_rfl) (by kernel_rfl) rfl (Xn (by kernel_rfl)) ⟨(fun H' m_ hH hm_ hu_ => dn <| s_d (m_ 0) rfl (Qq (v := (Qb y77 v81)) ty37 rfl .h1 rfl rfl rfl rfl) (by exact rfl) rfl), (fun H' m_ hH hm_ hu_ => dn <| s_d (m_ 1) rfl (Qq (v := (Qb y62 v66)) ty37 rfl .here rfl rfl rfl rfl) (by exact rfl) rfl), (by rintro H' m_ hH hm_ hu_ _ rfl; exact dn <| ZN (bx b_t4 (QN y77 v81) 37) hm_ rfl (YW (v := (Qb y77 v81)) sz37 rfl rfl rfl rfl (oc rfl (oc (h82.one) oz)) .h4 u2) rfl (by exact ⟨rfl, rfl⟩)), trivial⟩ ?_
    intro H83 e84
    rintro _ _ rfl _ _ rfl _ _ ⟨rfl, rfl⟩
    refine w_it (L' := bx b51 (QN y62 v66) 37 :: bx b42 (QN y77 v81) 37 :: none :: bx b_t5 [.bool false, .slice none 0 0] 37 :: bx b_t4 (QN y77 v81) 37 :: bx b_b [.bool b_0, v_b_1] 37 :: bx b_a [.bool a_0, v_a_1] 37 :: L) rfl <| wS (Qb y62 v66) sz37 rfl rfl rfl rfl rfl (Q7 h67) .h3 u2 <| Qc ?_
    obtain rfl := sj he
    refine Qn fn_65 rs_65 (.box (v := (Qb y77 v81)) rfl ty37 rfl rfl .h4 rfl (.box (v := (Qb y62 v66)) rfl ty37 rfl rfl .h3 rfl .nil)) <| ⟨⟨[_, _, _, _, _, _, _], rfl⟩, hle.trans (((((((e28.trans e44).trans e48).trans e59).trans e65).trans e76).trans e80).trans e84), ⟨v81, v66, rfl, (h82.mono e84), (h67.mono ((e76.trans e80).trans e84))⟩⟩
   ·
    refine QI rfl (Bool.eq_false_iff.2 c68) <| bK he fun y85 hy86 he => Xv (p := 2) (tl := [2, 3]) [[], []] [some 74, some 75] (fctF (.is (Qb y36 v40) :: .of (Qv.out y85) (Qv.out_mono _) :: [])) (fun m_ => bx b51 (QN y62 v66) 37 :: bx b42 (QN y36 v40) 37 :: none :: bx b_t5 [.bool false, .slice none 0 0] 37 :: bx b_t4 [.bool false, .slice none 0 0] 37 :: bx b_b [.bool b_0, v_b_1] 37 :: bx b_a [.bool a_0, v_a_1] 37 :: L) (fun _ => none) mixed (by kernel_rfl) (by kernel_rfl) rfl (Xn (by kernel_rfl)) ⟨(fun H' m_ hH hm_ hu_ => dn <| s_d (m_ 0) rfl (Qq (v := (Qb y36 v40)) ty37 rfl .h1 rfl rfl rfl rfl) (by exact rfl) rfl), (fun H' m_ hH hm_ hu_ => dn <| s_k (m_ 1) rfl (Qj co16 (vs := [.int .i64 1]) rfl (Qv.calls k hy86)) rfl (by rintro v_ H_ _ ⟨rfl, e_, h_⟩; exact ⟨rfl, e_, h_⟩)), trivial⟩ ?_
    intro H91 e92
    rintro _ _ rfl _ _ ⟨v89, rfl, h90⟩
    refine bK he fun y93 hy94 he => w_a rfl (Qj co14 (vs := [(Qb y36 v40), (Qb y85 v89)]) rfl (YS.calls k (a := y36) (b := y85) hy94 (h41.mono (((e48.trans e59).trans e65).trans e92)) h90)) ?_
    rintro _ H95 _ ⟨rfl, e96, v97, rfl, h98⟩
    refine wS (Qb y93 v97) sz37 rfl rfl rfl rfl rfl (Q7 h98) .h1 u2 <| wE <| Xv (p := 3) (tl := [3]) [[], [], [(0, some 77)]] [some 77, some 78, none] (fctF (.is (Qb y93 v97) :: .is (Qb y62 v66) :: .itm (fun H itq_ => itq_ = bx b_t4 (QN y93 v97) 37) (by rintro _ _ _ hle rfl; exact rfl) :: [])) (fun m_ => bx b51 (QN y62 v66) 37 :: bx b42 (QN y93 v97) 37 :: none :: bx b_t5 [.bool false, .slice none 0 0] 37 :: m_ 2 :: bx b_b [.bool b_0, v_b_1] 37 :: bx b_a [.bool a_0, v_a_1] 37 :: L) (fun i_ => if i_ = 2 then bx b_t4 [.bool false, .slice none 0 0] 37 else none) mixed (by kernel_rfl) (by kernel_rfl) rfl (Xn (by kernel_rfl)) ⟨(fun H' m_ hH hm_ hu_ => dn <| s_d (m_ 0) rfl (Qq (v := (Qb y93 v97)) ty37 rfl .h1 rfl rfl rfl rfl) (by exact rfl) rfl), (fun H' m_ hH hm_ hu_ => dn <| s_d (m_ 1) rfl (Qq (v := (Qb y62 v66)) ty37 rfl .here rfl rfl rfl rfl) (by exact rfl) rfl), (by rintro H' m_ hH hm_ hu_ _ rfl; exact dn <| ZN (bx b_t4 (QN y93 v97) 37) hm_ rfl (YW (v := (Qb y93 v97)) sz37 rfl rfl rfl rfl (oc rfl (oc (h98.one) oz)) .h4 u2) rfl (by exact ⟨rfl, rfl⟩)), trivial⟩ ?_
    intro H99 e100
    rintro _ _ rfl _ _ rfl _ _ ⟨rfl, rfl⟩
    refine w_it (L' := bx b51 (QN y62 v66) 37 :: bx b42 (QN y93 v97) 37 :: none :: bx b_t5 [.bool false, .slice none 0 0] 37 :: bx b_t4 (QN y93 v97) 37 :: bx b_b [.bool b_0, v_b_1] 37 :: bx b_a [.bool a_0, v_a_1] 37 :: L) rfl <| wS (Qb y62 v66) sz37 rfl rfl rfl rfl rfl (Q7 h67) .h3 u2 <| Qc ?_
    obtain rfl := sj he
    refine Qn fn_65 rs_65 (.box (v := (Qb y93 v97)) rfl ty37 rfl rfl .h4 rfl (.box (v := (Qb y62 v66)) rfl ty37 rfl rfl .h3 rfl .nil)) <| ⟨⟨[_, _, _, _, _, _, _], rfl⟩, hle.trans (((((((e28.trans e44).trans e48).trans e59).trans e65).trans e92).trans e96).trans e100), ⟨v97, v66, rfl, (h98.mono e100), (h67.mono ((e92.trans e96).trans e100))⟩⟩
  ·
   refine QI rfl (Bool.eq_false_iff.2 c55) <| QF <| QX <| Xv (p := 3) (tl := [3]) [[], [], [(0, some 77)]] [some 77, some 78, none] (fctF (.is (Qb y36 v40) :: .is (Qb y45 v49) :: .itm (fun H itq_ => itq_ = bx b_t4 (QN y36 v40) 37) (by rintro _ _ _ hle rfl; exact rfl) :: [])) (fun m_ => bx b51 (QN y45 v49) 37 :: bx b42 (QN y36 v40) 37 :: none :: bx b_t5 [.bool false, .slice none 0 0] 37 :: m_ 2 :: bx b_b [.bool b_0, v_b_1] 37 :: bx b_a [.bool a_0, v_a_1] 37 :: L) (fun i_ => if i_ = 2 then bx b_t4 [.bool false, .slice none 0 0] 37 else none) mixed (by kernel_rfl) (by kernel_rfl) rfl (Xn (by kernel_rfl)) ⟨(fun H' m_ hH hm_ hu_ => dn <| s_d (m_ 0) rfl (Qq (v := (Qb y36 v40)) ty37 rfl .h1 rfl rfl rfl rfl) (by exact rfl) rfl), (fun H' m_ hH hm_ hu_ => dn <| s_d (m_ 1) rfl (Qq (v := (Qb y45 v49)) ty37 rfl .here rfl rfl rfl rfl) (by exact rfl) rfl), (by rintro H' m_ hH hm_ hu_ _ rfl; exact dn <| ZN (bx b_t4 (QN y36 v40) 37) hm_ rfl (YW (v := (Qb y36 v40)) sz37 rfl rfl rfl rfl (oc rfl (oc (h41.one) oz)) .h4 u2) rfl (by exact ⟨rfl, rfl⟩)), trivial⟩ ?_
   intro H101 e102
   rintro _ _ rfl _ _ rfl _ _ ⟨rfl, rfl⟩
   refine w_it (L' := bx b51 (QN y45 v49) 37 :: bx b42 (QN y36 v40) 37 :: none :: bx b_t5 [.bool false, .slice none 0 0] 37 :: bx b_t4 (QN y36 v40) 37 :: bx b_b [.bool b_0, v_b_1] 37 :: bx b_a [.bool a_0, v_a_1] 37 :: L) rfl <| wS (Qb y45 v49) sz37 rfl rfl rfl rfl rfl (Q7 h50) .h3 u2 <| Qc ?_
   obtain rfl := sj he
   refine Qn fn_65 rs_65 (.box (v := (Qb y36 v40)) rfl ty37 rfl rfl .h4 rfl (.box (v := (Qb y45 v49)) rfl ty37 rfl rfl .h3 rfl .nil)) <| ⟨⟨[_, _, _, _, _, _, _], rfl⟩, hle.trans (((e28.trans e44).trans e48).trans e102), ⟨v40, v49, rfl, (h41.mono (e48.trans e102)), (h50.mono e102)⟩⟩
theorem Qy.b1_ok {k : Nat} {h : Qy.Hs} (hh : Qy.OK h) {H0 H : Hp} {L : Items} {r : Qh × Qh} {jk_ : Nat → Value} {a_0 : Bool} {a_1 : List Int} {b_0 : Bool} {b_1 rest q : List Int} {i : Int} {v_a_1 v_b_1 v_rest v_q : Value} {i_q : Item'} {b_a b_b b_t4 b_t5 : Nat} (hle : H0.le H) (he : Qy.b1 k h a_0 a_1 b_0 b_1 rest q i = some r) (h_a_1 : Ro kI64 H v_a_1 a_1) (h_b_1 : Ro kI64 H v_b_1 b_1) (h_rest : Ro kI64 H v_rest rest) (h_q : Sl kI64 H 3 i_q v_q q) : Wp Tryz.prog 65 79 Qy.Kl1 (upd (upd (upd (upd (upd (upd (upd jk_ 2 (pt b_a)) 3 (pt b_b)) 4 (pt b_t4)) 5 (pt b_t5)) 6 (v_rest)) 7 (v_q)) 8 (.int .i64 i)) H (i_q :: bx b_t5 [.bool false, .slice none 0 0] 37 :: bx b_t4 [.bool false, .slice none 0 0] 37 :: bx b_b [.bool b_0, v_b_1] 37 :: bx b_a [.bool a_0, v_a_1] 37 :: L) (Qy.R H0 L r) := by
 unfold Qy.b1 at he
 unfold Qy.Kl1
 refine QX <| wR rfl <| wM v_rest rfl rfl <| w_d rfl (QM (o' := 1) Tryz.underlying37 rfl sz35 rfl rfl rfl) <| wL v_b_1 ty35 rfl rfl .h3 rfl rfl <| bK he fun y103 hy104 he => w_d rfl (Xi (Qj co69 (vs := [v_rest, v_b_1]) rfl (Q1.calls k hy104 h_rest.src h_b_1.src))) <| w_d rfl (Zg (b := y103) rfl) <| Qc ?_
 rcases its he with ⟨c107, he⟩ | ⟨c107, he⟩
 ·
  refine QB rfl c107 <| QF <| Q8 <| wR rfl <| wM v_rest rfl rfl <| w_d rfl (QM (o' := 1) Tryz.underlying37 rfl sz35 rfl rfl rfl) <| wL v_b_1 ty35 rfl rfl .h3 rfl rfl <| bK he fun y108 hy109 he => w_a rfl (Qj co70 (vs := [v_rest, v_b_1]) rfl (Ql.calls k hy109 h_rest.src h_b_1.src)) ?_
  rintro v112 H110 _ ⟨rfl, e111, h113⟩
  refine wA v112 rfl rfl <| Qc <| QH rfl <| wM v_q rfl rfl <| wM (.int .i64 i) rfl rfl <| rK he fun c114 he => w_d rfl (Y0 (sz := 1) Tryz.underlying35 sz3 rfl (h_q.mono e111).shp rfl c114) <| w_d rfl (XX ty3 rfl ((h_q.mono e111).src .here) c114) <| w_d rfl (XG (c := w64 ((rd q i) + 1)) rfl rfl rfl) <| rK he fun c115 he => w_d rfl (Y0 (sz := 1) Tryz.underlying35 sz3 rfl (h_q.mono e111).shp rfl c115) <| w_a0 rfl (Zn (kd := kI64) (v := .int .i64 (w64 ((rd q i) + 1))) (F := fun z_ => z_ :: bx b_t5 [.bool false, .slice none 0 0] 37 :: bx b_t4 [.bool false, .slice none 0 0] 37 :: bx b_b [.bool b_0, v_b_1] 37 :: bx b_a [.bool a_0, v_a_1] 37 :: L) sz3 rfl rfl rfl rfl (h_q.mono e111) c115 (fun _ => .here)) ?_
  rintro _ _ _ ⟨i116, rfl, rfl, rfl, h117⟩
  refine Qc <| Xp <| Xy <| w_sl 2 (pt b_a) rfl <| w_sl 3 (pt b_b) rfl <| w_sl 4 (pt b_t4) rfl <| w_sl 5 (pt b_t5) rfl <| w_sl 6 (v112) rfl <| w_sl 7 (v_q) rfl <| w_sl 8 (.int .i64 i) rfl <| hh.l1 (hle.trans e111) he (h_a_1.mono e111) (h_b_1.mono e111) h113 h117
 ·
  refine QI rfl (Bool.eq_false_iff.2 c107) <| Ya rfl <| Xp <| QH rfl <| wM (.int .i64 i) rfl rfl <| w_d rfl (YT (c := w64 (i - 1)) rfl rfl rfl) <| wA (.int .i64 (w64 (i - 1))) rfl rfl <| Qc <| Xy <| w_sl 2 (pt b_a) rfl <| w_sl 3 (pt b_b) rfl <| w_sl 4 (pt b_t4) rfl ?_
  refine w_sl 5 (pt b_t5) rfl <| w_sl 6 (v_rest) rfl <| w_sl 7 (v_q) rfl <| w_sl 8 (.int .i64 (w64 (i - 1))) rfl <| hh.l0 hle he h_a_1 h_b_1 h_rest h_q
theorem Qy.ok : ∀ k, Qy.OK (Qy.hs k)
 | 0 => ⟨(by intros; exact nomatch (show none = some _ from by assumption)), (by intros; exact nomatch (show none = some _ from by assumption))⟩
 | k + 1 => ⟨Qy.b0_ok (k := k) (Qy.ok k), Qy.b1_ok (k := k) (Qy.ok k)⟩
theorem Qy.calls (k : Nat) {H : Hp} {L : Items} {a b : Qh} {v0_a v1_b : Value} {r : Qh × Qh} (he : Qy.f k a b = some r) (h0_a : Ro kI64 H v0_a a.f_D) (h1_b : Ro kI64 H v1_b b.f_D) : Ct Tryz.prog 65 ⟨[(Qb a v0_a), (Qb b v1_b)]⟩ H L (cR H L (Qy.out r)) := by
 refine XS (O := Qy.out r) ?_
 have hle : H.le H := .refl _
 have hh := Qy.ok k
 unfold Qy.f at he
 refine QZ (args := [(Qb a v0_a), (Qb b v1_b)]) fn_65 rfl nt_65 rfl <| wR rfl <| wB (Qb a v0_a) rfl rfl rfl <| fun b1 => wB (Qb b v1_b) rfl rfl rfl <| fun b2 => wN zr37 rfl rfl fun b3 => wN zr37 rfl rfl fun b4 => wQ rfl <| wA (.slice none 0 0) rfl rfl <| Qc ?_
 refine wR rfl <| w_d rfl (QM (o' := 1) Tryz.underlying37 rfl sz35 rfl rfl rfl) <| wL v0_a ty35 rfl rfl .h3 rfl rfl <| w_d rfl (XL Tryz.underlying35 rfl h0_a.src) <| rK he fun c5 he => w_a rfl (o_make' (kd := kI64) (z0 := 0) Tryz.underlying35 ti3 (zp3 _) rfl rfl (by omega) (by omega) (by omega)) ?_
 rintro v6 _ _ ⟨i7, rfl, rfl, h8⟩
 refine wA v6 rfl rfl <| wE <| wR rfl <| w_d rfl (QM (o' := 1) Tryz.underlying37 rfl sz35 rfl rfl rfl) <| wL v0_a ty35 rfl rfl .h4 rfl rfl <| w_d rfl (XL Tryz.underlying35 rfl h0_a.src) <| w_d rfl (YT (c := w64 ((a.f_D.length : Int) - 1)) rfl rfl rfl) <| wA (.int .i64 (w64 ((a.f_D.length : Int) - 1))) rfl rfl <| Qc <| Q8 ?_
 refine Ye <| w_sl 2 (pt b1) rfl <| w_sl 3 (pt b2) rfl <| w_sl 4 (pt b3) rfl <| w_sl 5 (pt b4) rfl <| w_sl 6 (.slice none 0 0) rfl <| w_sl 7 (v6) rfl <| w_sl 8 (.int .i64 (w64 ((a.f_D.length : Int) - 1))) rfl <| hh.l0 hle he h0_a h1_b (Q2 _ _) h8
noncomputable def QP.C : Code := (Tryz.f13.body).getD .skip
def QP.out (r : QJ) (H : Hp) (v : Value) : Prop := ∃ v0 v1, v = (Qe r v0 v1) ∧ Ro kI64 H v0 r.f_N.f_D ∧ Ro kI64 H v1 r.f_D.f_D
abbrev QP.R (H0 : Hp) (L : Items) (r : QJ) := fR H0 L (QP.out r)
structure QP.Hs where
 l0 : Bool → (List Int) → Bool → (List Int) → Bool → (List Int) → Bool → (List Int) → Option QJ
noncomputable def QP.j1 (k : Nat) (h : QP.Hs) (n_0 : Bool) (n_1 : List Int) (d_0 : Bool) (d_1 : List Int) : Option QJ := (Yl.f k ⟨n_0, n_1⟩).bind fun y23 => h.l0 n_0 n_1 d_0 d_1 y23.f_Neg y23.f_D d_0 d_1
noncomputable def QP.b0 (k : Nat) (h : QP.Hs) (n_0 : Bool) (n_1 : List Int) (d_0 : Bool) (d_1 : List Int) (a_0 : Bool) (a_1 : List Int) (b_0 : Bool) (b_1 : List Int) : Option QJ := (XK.f k ⟨b_0, b_1⟩).bind fun y37 => if y37 = 0 then ((Qy.f k ⟨n_0, n_1⟩ ⟨a_0, a_1⟩).bind fun y42 => (Qy.f k ⟨d_0, d_1⟩ ⟨a_0, a_1⟩).bind fun y52 => some (⟨y42.1, y52.1⟩)) else ((Qy.f k ⟨a_0, a_1⟩ ⟨b_0, b_1⟩).bind fun y62 => h.l0 n_0 n_1 d_0 d_1 b_0 b_1 y62.2.f_Neg y62.2.f_D)
noncomputable def QP.hs : Nat → QP.Hs
 | 0 => ⟨fun _ _ _ _ _ _ _ _ => none⟩
 | k + 1 => ⟨fun x0 x1 x2 x3 x4 x5 x6 x7 => QP.b0 k (QP.hs k) x0 x1 x2 x3 x4 x5 x6 x7⟩
noncomputable def QP.f (k : Nat) (n d : Qh) : Option QJ := (fun h : QP.Hs => (XK.f k d).bind fun y4 => if y4 < 0 then ((XM.f k n).bind fun y9 => (XM.f k d).bind fun y17 => QP.j1 k h y9.f_Neg y9.f_D y17.f_Neg y17.f_D) else (QP.j1 k h n.f_Neg n.f_D d.f_Neg d.f_D)) (QP.hs k)
noncomputable def QP.Kj1 : List Item := .code (seqR (seqR QP.C)) :: []
noncomputable def QP.Kl0 : List Item := .code (lopB (blkB (seqL (seqR (seqR (seqR QP.C)))))) :: .inLoop (lopB (blkB (seqL (seqR (seqR (seqR QP.C)))))) :: .inBlock 0 :: .code (seqR (seqR (seqR (seqR QP.C)))) :: []
structure QP.OK (h : QP.Hs) : Prop where
 l0 : ∀ {H0 H : Hp} {L : Items} {r : QJ} {jk_ : Nat → Value} {n_0 : Bool} {n_1 : List Int} {d_0 : Bool} {d_1 : List Int} {a_0 : Bool} {a_1 : List Int} {b_0 : Bool} {b_1 : List Int} {v_n_1 : Value} {v_d_1 : Value} {v_a_1 : Value} {v_b_1 : Value} {b_n : Nat} {b_d : Nat} {b_t4 : Nat} {b_a : Nat} {b_b : Nat} (_ : H0.le H) (_he : h.l0 n_0 n_1 d_0 d_1 a_0 a_1 b_0 b_1 = some r) (_h_n_1 : Ro kI64 H v_n_1 n_1) (_h_d_1 : Ro kI64 H v_d_1 d_1) (_h_a_1 : Ro kI64 H v_a_1 a_1) (_h_b_1 : Ro kI64 H v_b_1 b_1), Wp Tryz.prog 13 49 QP.Kl0 (upd (upd (upd (upd (upd jk_ 2 (pt b_n)) 3 (pt b_d)) 4 (pt b_t4)) 5 (pt b_a)) 6 (pt b_b)) H (bx b_a [.bool a_0, v_a_1] 37 :: bx b_b [.bool b_0, v_b_1] 37 :: bx b_t4 z0c 40 :: bx b_d [.bool d_0, v_d_1] 37 :: bx b_n [.bool n_0, v_n_1] 37 :: L) (QP.R H0 L r)
theorem QP.j1_ok {k : Nat} {h : QP.Hs} (hh : QP.OK h) {H0 H : Hp} {L : Items} {r : QJ} {jk_ : Nat → Value} {n_0 : Bool} {n_1 : List Int} {d_0 : Bool} {d_1 : List Int} {v_n_1 v_d_1 : Value} {b_n b_d b_t4 : Nat} (hle : H0.le H) (he : QP.j1 k h n_0 n_1 d_0 d_1 = some r) (h_n_1 : Ro kI64 H v_n_1 n_1) (h_d_1 : Ro kI64 H v_d_1 d_1) : Wp Tryz.prog 13 49 QP.Kj1 (upd (upd (upd jk_ 2 (pt b_n)) 3 (pt b_d)) 4 (pt b_t4)) H (bx b_t4 z0c 40 :: bx b_d [.bool d_0, v_d_1] 37 :: bx b_n [.bool n_0, v_n_1] 37 :: L) (QP.R H0 L r) := by
 unfold QP.j1 at he
 unfold QP.Kj1
 refine QX <| bK he fun y23 hy24 he => ?_
 refine YF (YF (?_))
 refine Xv (p := 6) (tl := [6]) [[], [(0, some 20)], [], [], [], [(1, some 21), (3, some 5)]] [some 20, some 21, some 22, some 5, some 6, none] (fctF (.is (.agg ⟨[.bool n_0, v_n_1]⟩) :: .of (Yl.out y23) (Yl.out_mono _) :: .is (.agg ⟨[.bool d_0, v_d_1]⟩) :: .box 37 [.bool false, .slice none 0 0] :: .box 37 [.bool false, .slice none 0 0] :: .st 3 (fun H bq_ itq_ => ∃ v31, itq_ = bx bq_ (QN y23 v31) 37 ∧ Ro kI64 H v31 y23.f_D) (by rintro _ _ _ _ hle ⟨v31, rfl, h32⟩; exact ⟨v31, rfl, h32.mono hle⟩) :: [])) (fun m_ => pk (m_ 5) (m_ 3) :: m_ 4 :: bx b_t4 z0c 40 :: bx b_d [.bool d_0, v_d_1] 37 :: bx b_n [.bool n_0, v_n_1] 37 :: L) (fun _ => none) mixed (by kernel_rfl) (by kernel_rfl) rfl (Xn (by kernel_rfl)) ⟨(fun H' m_ hH hm_ hu_ => dn <| s_d (m_ 0) rfl (Qq (v := .agg ⟨[.bool n_0, v_n_1]⟩) ty37 rfl .h4 rfl rfl rfl rfl) (by exact rfl) rfl), (by rintro H' m_ hH hm_ hu_ _ rfl; exact dn <| s_k (m_ 1) rfl (Qj co64 (vs := [.agg ⟨[.bool n_0, v_n_1]⟩]) rfl (Yl.calls k (a := ⟨n_0, n_1⟩) hy24 (h_n_1.mono hH))) rfl (by rintro v_ H_ _ ⟨rfl, e_, h_⟩; exact ⟨rfl, e_, h_⟩)), (fun H' m_ hH hm_ hu_ => dn <| s_d (m_ 2) rfl (Qq (v := .agg ⟨[.bool d_0, v_d_1]⟩) ty37 rfl .h3 rfl rfl rfl rfl) (by exact rfl) rfl), (fun H' m_ hH hm_ hu_ => dn <| Ze hm_ rfl rfl (YJ zr37 rfl) rfl (fun _ => (JH (hu_ 5 (by kernel_rfl)))) (by exact fun b_ => ⟨b_, rfl, rfl⟩)), (fun H' m_ hH hm_ hu_ => dn <| Ze hm_ rfl rfl (YJ zr37 rfl) rfl (fun _ => .h1) (by exact fun b_ => ⟨b_, rfl, rfl⟩)), (by rintro H' m_ hH hm_ hu_ _ ⟨v27, rfl, h28⟩ _ ⟨b29, rfl, hb29_⟩; exact dn <| Z6 (Λ' := fun z_ => z_ :: m_ 4 :: bx b_t4 z0c 40 :: bx b_d [.bool d_0, v_d_1] 37 :: bx b_n [.bool n_0, v_n_1] 37 :: L) (bx b29 (QN y23 v27) 37) hm_ rfl hb29_ rfl (YW (v := (Qb y23 v27)) sz37 rfl rfl rfl rfl (oc rfl (oc (h28.one) oz)) .here u2) rfl rfl (by exact ⟨rfl, v27, congrArg (fun b_ => (some (b_, Obj.cells ⟨(QN y23 v27)⟩ 37 (0, 0)) : Item')) (JF hb29_).symm, h28⟩)), trivial⟩ ?_
 intro H35 e36
 rintro _ _ rfl _ _ ⟨v27, rfl, h28⟩ _ _ rfl _ _ ⟨b29, rfl, rfl⟩ _ _ ⟨b30, rfl, rfl⟩ _ i33 ⟨rfl, v31, h34, h32⟩
 replace h34 : i33 = bx b29 (QN y23 v31) 37 := h34
 subst h34
 refine w_it (L' := bx b29 (QN y23 v31) 37 :: bx b30 [.bool false, .slice none 0 0] 37 :: bx b_t4 z0c 40 :: bx b_d [.bool d_0, v_d_1] 37 :: bx b_n [.bool n_0, v_n_1] 37 :: L) rfl <| wS (.agg ⟨[.bool d_0, v_d_1]⟩) sz37 rfl rfl rfl rfl rfl (oc rfl (oc (h_d_1.one) oz)) .h1 u2 <| wE <| Q8 <| Ye <| w_sl 2 (pt b_n) rfl <| w_sl 3 (pt b_d) rfl <| w_sl 4 (pt b_t4) rfl <| w_sl 5 (pt b29) rfl <| w_sl 6 (pt b30) rfl <| hh.l0 (hle.trans e36) he (h_n_1.mono e36) (h_d_1.mono e36) h32 (h_d_1.mono e36)
theorem QP.b0_ok {k : Nat} {h : QP.Hs} (hh : QP.OK h) {H0 H : Hp} {L : Items} {r : QJ} {jk_ : Nat → Value} {n_0 : Bool} {n_1 : List Int} {d_0 : Bool} {d_1 : List Int} {a_0 : Bool} {a_1 : List Int} {b_0 : Bool} {b_1 : List Int} {v_n_1 v_d_1 v_a_1 v_b_1 : Value} {b_n b_d b_t4 b_a b_b : Nat} (hle : H0.le H) (he : QP.b0 k h n_0 n_1 d_0 d_1 a_0 a_1 b_0 b_1 = some r) (h_n_1 : Ro kI64 H v_n_1 n_1) (h_d_1 : Ro kI64 H v_d_1 d_1) (h_a_1 : Ro kI64 H v_a_1 a_1) (h_b_1 : Ro kI64 H v_b_1 b_1) : Wp Tryz.prog 13 49 QP.Kl0 (upd (upd (upd (upd (upd jk_ 2 (pt b_n)) 3 (pt b_d)) 4 (pt b_t4)) 5 (pt b_a)) 6 (pt b_b)) H (bx b_a [.bool a_0, v_a_1] 37 :: bx b_b [.bool b_0, v_b_1] 37 :: bx b_t4 z0c 40 :: bx b_d [.bool d_0, v_d_1] 37 :: bx b_n [.bool n_0, v_n_1] 37 :: L) (QP.R H0 L r) := by
 unfold QP.b0 at he
 unfold QP.Kl0
 refine QX <| wR rfl <| wL (.agg ⟨[.bool b_0, v_b_1]⟩) ty37 rfl rfl .h1 rfl rfl <| bK he fun y37 hy38 he => w_d rfl (Xi (Qj co62 (vs := [.agg ⟨[.bool b_0, v_b_1]⟩]) rfl (XK.calls k (a := ⟨b_0, b_1⟩) hy38 h_b_1))) <| w_d rfl (Jx rfl rfl) <| Qc ?_
 rcases its he with ⟨c41, he⟩ | ⟨c41, he⟩
 ·
  refine QI rfl (nd_t c41) <| Ya rfl <| wR rfl <| wL (.agg ⟨[.bool n_0, v_n_1]⟩) ty37 rfl rfl .h4 rfl rfl <| wL (.agg ⟨[.bool a_0, v_a_1]⟩) ty37 rfl rfl .here rfl rfl <| bK he fun y42 hy43 he => w_a rfl (Qj co65 (vs := [.agg ⟨[.bool n_0, v_n_1]⟩, .agg ⟨[.bool a_0, v_a_1]⟩]) rfl (Qy.calls k (a := ⟨n_0, n_1⟩) (b := ⟨a_0, a_1⟩) hy43 h_n_1 h_a_1)) ?_
  rintro _ H44 _ ⟨rfl, e45, v46, v48, rfl, h47, h49⟩
  refine wM (.tuple ⟨[(Qb y42.1 v46), (Qb y42.2 v48)]⟩) rfl rfl <| w_d rfl (QS rfl rfl) <| w_d rfl (QS rfl rfl) <| wN zr37 rfl rfl fun b50 => wN zr37 rfl rfl fun b51 => wS (Qb y42.1 v46) sz37 rfl rfl rfl rfl rfl (Q7 h47) .h1 u2 <| wS (Qb y42.2 v48) sz37 rfl rfl rfl rfl rfl (Q7 h49) .here u2 <| wQ rfl <| w_d rfl (Qq (v := .agg ⟨[.bool d_0, v_d_1]⟩) ty37 rfl .h5 rfl rfl rfl rfl) <| wL (.agg ⟨[.bool a_0, v_a_1]⟩) ty37 rfl rfl .h2 rfl rfl ?_
  refine bK he fun y52 hy53 he => w_a rfl (Qj co65 (vs := [.agg ⟨[.bool d_0, v_d_1]⟩, .agg ⟨[.bool a_0, v_a_1]⟩]) rfl (Qy.calls k (a := ⟨d_0, d_1⟩) (b := ⟨a_0, a_1⟩) hy53 (h_d_1.mono e45) (h_a_1.mono e45))) ?_
  rintro _ H54 _ ⟨rfl, e55, v56, v58, rfl, h57, h59⟩
  refine wM (.tuple ⟨[(Qb y52.1 v56), (Qb y52.2 v58)]⟩) rfl rfl <| w_d rfl (QS rfl rfl) <| w_d rfl (QS rfl rfl) <| wN zr37 rfl rfl fun b60 => wN zr37 rfl rfl fun b61 => wS (Qb y52.1 v56) sz37 rfl rfl rfl rfl rfl (Q7 h57) .h1 u2 <| wS (Qb y52.2 v58) sz37 rfl rfl rfl rfl rfl (Q7 h59) .here u2 <| wQ rfl <| wL (Qb y42.1 v46) ty37 rfl rfl .h3 rfl rfl <| wL (Qb y52.1 v56) ty37 rfl rfl .h1 rfl rfl ?_
  refine w_d rfl (Xx (cs' := [.bool y42.1.f_Neg, v46, .bool y52.1.f_Neg, v56]) Tryz.underlying40 zr40 rfl (by kernel_rfl) (parts := [(0, (Qb y42.1 v46)), (1, (Qb y52.1 v56))]) rfl (.cons (X2 rfl sz37 rfl) rfl rfl u2 (.cons (X2 rfl sz37 rfl) rfl rfl (.there (.there u2)) .nil))) <| wS (.agg ⟨[.bool y42.1.f_Neg, v46, .bool y52.1.f_Neg, v56]⟩) sz40 rfl rfl rfl rfl rfl (oc rfl (oc (h47.one) (oc rfl (oc (h57.one) oz)))) .h6 u4 <| Qc ?_
  obtain rfl := sj he
  refine Qn fn_13 rs_13 (.box (v := .agg ⟨[.bool y42.1.f_Neg, v46, .bool y52.1.f_Neg, v56]⟩) rfl ty40 rfl rfl .h6 rfl .nil) <| ⟨⟨[_, _, _, _, _, _, _, _, _], rfl⟩, hle.trans (e45.trans e55), ⟨v46, v56, rfl, (h47.mono e55), h57⟩⟩
 ·
  refine QB rfl (nd_f c41) <| QF <| Q8 <| wR rfl <| wL (.agg ⟨[.bool a_0, v_a_1]⟩) ty37 rfl rfl .here rfl rfl <| wL (.agg ⟨[.bool b_0, v_b_1]⟩) ty37 rfl rfl .h1 rfl rfl <| bK he fun y62 hy63 he => w_a rfl (Qj co65 (vs := [.agg ⟨[.bool a_0, v_a_1]⟩, .agg ⟨[.bool b_0, v_b_1]⟩]) rfl (Qy.calls k (a := ⟨a_0, a_1⟩) (b := ⟨b_0, b_1⟩) hy63 h_a_1 h_b_1)) ?_
  rintro _ H64 _ ⟨rfl, e65, v66, v68, rfl, h67, h69⟩
  refine wM (.tuple ⟨[(Qb y62.1 v66), (Qb y62.2 v68)]⟩) rfl rfl <| w_d rfl (QS rfl rfl) <| w_d rfl (QS rfl rfl) <| wN zr37 rfl rfl fun b70 => wN zr37 rfl rfl fun b71 => wS (Qb y62.1 v66) sz37 rfl rfl rfl rfl rfl (Q7 h67) .h1 u2 <| wS (Qb y62.2 v68) sz37 rfl rfl rfl rfl rfl (Q7 h69) .here u2 <| Qc <| Xv (p := 3) (tl := [3]) [[], [], [(0, some 32)]] [some 32, some 33, none] (fctF (.is (.agg ⟨[.bool b_0, v_b_1]⟩) :: .is (Qb y62.2 v68) :: .itm (fun H itq_ => itq_ = bx b_a [.bool b_0, v_b_1] 37) (by rintro _ _ _ hle rfl; exact rfl) :: [])) (fun m_ => bx b71 (QN y62.2 v68) 37 :: bx b70 (QN y62.1 v66) 37 :: m_ 2 :: bx b_b [.bool b_0, v_b_1] 37 :: bx b_t4 z0c 40 :: bx b_d [.bool d_0, v_d_1] 37 :: bx b_n [.bool n_0, v_n_1] 37 :: L) (fun i_ => if i_ = 2 then bx b_a [.bool a_0, v_a_1] 37 else none) mixed (by kernel_rfl) (by kernel_rfl) rfl (Xn (by kernel_rfl)) ⟨(fun H' m_ hH hm_ hu_ => dn <| s_d (m_ 0) rfl (Qq (v := .agg ⟨[.bool b_0, v_b_1]⟩) ty37 rfl .h3 rfl rfl rfl rfl) (by exact rfl) rfl), (fun H' m_ hH hm_ hu_ => dn <| s_d (m_ 1) rfl (Qq (v := (Qb y62.2 v68)) ty37 rfl .here rfl rfl rfl rfl) (by exact rfl) rfl), (by rintro H' m_ hH hm_ hu_ _ rfl; exact dn <| ZN (bx b_a [.bool b_0, v_b_1] 37) hm_ rfl (YW (v := .agg ⟨[.bool b_0, v_b_1]⟩) sz37 rfl rfl rfl rfl (oc rfl (oc (h_b_1.one) oz)) .h2 u2) rfl (by exact ⟨rfl, rfl⟩)), trivial⟩ ?_
  intro H72 e73
  rintro _ _ rfl _ _ rfl _ _ ⟨rfl, rfl⟩
  refine w_it (L' := bx b71 (QN y62.2 v68) 37 :: bx b70 (QN y62.1 v66) 37 :: bx b_a [.bool b_0, v_b_1] 37 :: bx b_b [.bool b_0, v_b_1] 37 :: bx b_t4 z0c 40 :: bx b_d [.bool d_0, v_d_1] 37 :: bx b_n [.bool n_0, v_n_1] 37 :: L) rfl <| wS (Qb y62.2 v68) sz37 rfl rfl rfl rfl rfl (Q7 h69) .h3 u2 <| Qc <| Xp <| Xy <| Yw .h1 <| Yw .here <| w_sl 2 (pt b_n) rfl <| w_sl 3 (pt b_d) rfl <| w_sl 4 (pt b_t4) rfl <| w_sl 5 (pt b_a) rfl <| w_sl 6 (pt b_b) rfl <| hh.l0 (hle.trans (e65.trans e73)) he (h_n_1.mono (e65.trans e73)) (h_d_1.mono (e65.trans e73)) (h_b_1.mono (e65.trans e73)) (h69.mono e73)
theorem QP.ok : ∀ k, QP.OK (QP.hs k)
 | 0 => ⟨(by intros; exact nomatch (show none = some _ from by assumption))⟩
 | k + 1 => ⟨QP.b0_ok (k := k) (QP.ok k)⟩
theorem QP.calls (k : Nat) {H : Hp} {L : Items} {n d : Qh} {v0_n v1_d : Value} {r : QJ} (he : QP.f k n d = some r) (h0_n : Ro kI64 H v0_n n.f_D) (h1_d : Ro kI64 H v1_d d.f_D) : Ct Tryz.prog 13 ⟨[(Qb n v0_n), (Qb d v1_d)]⟩ H L (cR H L (QP.out r)) := by
 refine XS (O := QP.out r) ?_
 have hle : H.le H := .refl _
 have hh := QP.ok k
 unfold QP.f at he
 refine QZ (args := [(Qb n v0_n), (Qb d v1_d)]) fn_13 rfl nt_13 rfl <| wR rfl <| wB (Qb n v0_n) rfl rfl rfl <| fun b1 => wB (Qb d v1_d) rfl rfl rfl <| fun b2 => wN zr40 rfl rfl fun b3 => wE <| wR rfl <| wL (Qb d v1_d) ty37 rfl rfl .h1 rfl rfl <| bK he fun y4 hy5 he => ?_
 refine w_d rfl (Xi (Qj co62 (vs := [(Qb d v1_d)]) rfl (XK.calls k (a := d) hy5 h1_d))) <| w_d rfl (XO rfl rfl) <| Qc ?_
 rcases its he with ⟨c8, he⟩ | ⟨c8, he⟩
 ·
  refine QB rfl (dt c8) <| bK he fun y9 hy10 he => Xv (p := 3) (tl := [3, 4, 5]) [[], [(0, some 16)], []] [some 16, some 17, some 18] (fctF (.is (Qb n v0_n) :: .of (XM.out y9) (XM.out_mono _) :: .is (Qb d v1_d) :: [])) (fun m_ => bx b3 z0c 40 :: bx b2 (QN d v1_d) 37 :: bx b1 (QN n v0_n) 37 :: L) (fun _ => none) mixed (by kernel_rfl) (by kernel_rfl) rfl (Xn (by kernel_rfl)) ⟨(fun H' m_ hH hm_ hu_ => dn <| s_d (m_ 0) rfl (Qq (v := (Qb n v0_n)) ty37 rfl .h2 rfl rfl rfl rfl) (by exact rfl) rfl), (by rintro H' m_ hH hm_ hu_ _ rfl; exact dn <| s_k (m_ 1) rfl (Qj co63 (vs := [(Qb n v0_n)]) rfl (XM.calls k (a := n) hy10 (h0_n.mono hH))) rfl (by rintro v_ H_ _ ⟨rfl, e_, h_⟩; exact ⟨rfl, e_, h_⟩)), (fun H' m_ hH hm_ hu_ => dn <| s_d (m_ 2) rfl (Qq (v := (Qb d v1_d)) ty37 rfl .h1 rfl rfl rfl rfl) (by exact rfl) rfl), trivial⟩ ?_
  intro H15 e16
  rintro _ _ rfl _ _ ⟨v13, rfl, h14⟩ _ _ rfl
  refine bK he fun y17 hy18 he => w_a rfl (Qj co63 (vs := [(Qb d v1_d)]) rfl (XM.calls k (a := d) hy18 (h1_d.mono e16))) ?_
  rintro _ H19 _ ⟨rfl, e20, v21, rfl, h22⟩
  refine wS (Qb y9 v13) sz37 rfl rfl rfl rfl rfl (Q7 h14) .h2 u2 <| wS (Qb y17 v21) sz37 rfl rfl rfl rfl rfl (Q7 h22) .h1 u2 <| Qc <| w_sl 2 (pt b1) rfl <| w_sl 3 (pt b2) rfl <| w_sl 4 (pt b3) rfl <| QP.j1_ok (k := k) hh (hle.trans (e16.trans e20)) he (h14.mono e20) h22
 ·
  refine QI rfl (df c8) <| QF <| w_sl 2 (pt b1) rfl <| w_sl 3 (pt b2) rfl <| w_sl 4 (pt b3) rfl <| QP.j1_ok (k := k) hh hle he h0_n h1_d
noncomputable def XI.C : Code := (Tryz.f75.body).getD .skip
def XI.out (r : QJ) (H : Hp) (v : Value) : Prop := ∃ v0 v1, v = (Qe r v0 v1) ∧ Ro kI64 H v0 r.f_N.f_D ∧ Ro kI64 H v1 r.f_D.f_D
theorem XI.out_mono (r : QJ) {H H' : Hp} {v : Value} (hle : H.le H') (h : XI.out r H v) : XI.out r H' v := by
 obtain ⟨v0, v1, rfl, h0, h1⟩ := h; exact ⟨v0, v1, rfl, h0.mono hle, h1.mono hle⟩
noncomputable def XI.f (k : Nat) (n d : List Int) (neg : Bool) : Option QJ := (QY.f k n neg 60).bind fun y2 => (QY.f k d false 60).bind fun y8 => (XK.f k y8).bind fun y16 => if y16 = 0 then ((Qv.f k 1).bind fun y21 => (QP.f k y2 y21).bind fun y27 => some (y27)) else ((QP.f k y2 y8).bind fun y35 => some (y35))
theorem XI.calls (k : Nat) {H : Hp} {L : Items} {n d : List Int} {neg : Bool} {v0_n v1_d : Value} {r : QJ} (he : XI.f k n d neg = some r) (h0_n : Src kU8 H L v0_n n) (h1_d : Src kU8 H L v1_d d) : Ct Tryz.prog 75 ⟨[v0_n, v1_d, .bool neg]⟩ H L (cR H L (XI.out r)) := by
 refine XS (O := XI.out r) ?_
 have hle : H.le H := .refl _
 unfold XI.f at he
 refine QZ (args := [v0_n, v1_d, .bool neg]) fn_75 rfl nt_75 rfl <| wR rfl <| wN zr40 rfl rfl fun b1 => wQ rfl <| wM v0_n rfl rfl <| wM (.bool neg) rfl rfl <| bK he fun y2 hy3 he => w_a rfl (Qj co126 (vs := [v0_n, .bool neg, .int .i64 60]) rfl (QY.calls k hy3 h0_n.th)) ?_
 rintro _ H4 _ ⟨rfl, e5, v6, rfl, h7⟩
 refine wM v1_d rfl rfl <| bK he fun y8 hy9 he => w_a rfl (Qj co126 (vs := [v1_d, .bool false, .int .i64 60]) rfl (QY.calls k hy9 ((h1_d.mono e5).th))) ?_
 rintro _ H10 _ ⟨rfl, e11, v12, rfl, h13⟩
 refine wN zr37 rfl rfl fun b14 => wN zr37 rfl rfl fun b15 => wS (Qb y2 v6) sz37 rfl rfl rfl rfl rfl (Q7 h7) .h1 u2 <| wS (Qb y8 v12) sz37 rfl rfl rfl rfl rfl (Q7 h13) .here u2 <| wE <| wR rfl <| wL (Qb y8 v12) ty37 rfl rfl .here rfl rfl <| bK he fun y16 hy17 he => w_d rfl (Xi (Qj co62 (vs := [(Qb y8 v12)]) rfl (XK.calls k (a := y8) hy17 h13))) <| w_d rfl (Zb rfl rfl) ?_
 refine Qc ?_
 rcases its he with ⟨c20, he⟩ | ⟨c20, he⟩
 ·
  refine QB rfl (dt c20) <| QH rfl <| bK he fun y21 hy22 he => w_a rfl (Qj co16 (vs := [.int .i64 1]) rfl (Qv.calls k hy22)) ?_
  rintro _ H23 _ ⟨rfl, e24, v25, rfl, h26⟩
  refine wS (Qb y21 v25) sz37 rfl rfl rfl rfl rfl (Q7 h26) .here u2 <| wQ rfl <| wL (Qb y2 v6) ty37 rfl rfl .h1 rfl rfl <| wL (Qb y21 v25) ty37 rfl rfl .here rfl rfl <| bK he fun y27 hy28 he => w_a rfl (Qj co13 (vs := [(Qb y2 v6), (Qb y21 v25)]) rfl (QP.calls k (n := y2) (d := y21) hy28 (h7.mono (e11.trans e24)) h26)) ?_
  rintro _ H29 _ ⟨rfl, e30, v31, v33, rfl, h32, h34⟩
  refine wS (Qe y27 v31 v33) sz40 rfl rfl rfl rfl rfl (Yg h32 h34) .h2 u4 <| Qc ?_
  obtain rfl := sj he
  refine Qn fn_75 rs_75 (.box (v := (Qe y27 v31 v33)) rfl ty40 rfl rfl .h2 rfl .nil) <| ⟨⟨[_, _, _], rfl⟩, hle.trans (((e5.trans e11).trans e24).trans e30), ⟨v31, v33, rfl, h32, h34⟩⟩
 ·
  refine QI rfl (df c20) <| QF <| wR rfl <| wL (Qb y2 v6) ty37 rfl rfl .h1 rfl rfl <| wL (Qb y8 v12) ty37 rfl rfl .here rfl rfl <| bK he fun y35 hy36 he => w_a rfl (Qj co13 (vs := [(Qb y2 v6), (Qb y8 v12)]) rfl (QP.calls k (n := y2) (d := y8) hy36 (h7.mono e11) h13)) ?_
  rintro _ H37 _ ⟨rfl, e38, v39, v41, rfl, h40, h42⟩
  refine wS (Qe y35 v39 v41) sz40 rfl rfl rfl rfl rfl (Yg h40 h42) .h2 u4 <| Qc ?_
  obtain rfl := sj he
  refine Qn fn_75 rs_75 (.box (v := (Qe y35 v39 v41)) rfl ty40 rfl rfl .h2 rfl .nil) <| ⟨⟨[_, _, _], rfl⟩, hle.trans ((e5.trans e11).trans e38), ⟨v39, v41, rfl, h40, h42⟩⟩
noncomputable def Qx.C : Code := (Tryz.f12.body).getD .skip
def Qx.out (r : Qh) (H : Hp) (v : Value) : Prop := ∃ v0, v = (Qb r v0) ∧ Ro kI64 H v0 r.f_D
theorem Qx.out_mono (r : Qh) {H H' : Hp} {v : Value} (hle : H.le H') (h : Qx.out r H v) : Qx.out r H' v := by
 obtain ⟨v0, rfl, h0⟩ := h; exact ⟨v0, rfl, h0.mono hle⟩
abbrev Qx.R (H0 : Hp) (L : Items) (r : Qh) := fR H0 L (Qx.out r)
structure Qx.Hs where
 l0 : Int → Bool → (List Int) → Int → Option Qh
 l1 : Int → Bool → (List Int) → Int → Option Qh
noncomputable def Qx.b0 (k : Nat) (h : Qx.Hs) (n : Int) (x_0 : Bool) (x_1 : List Int) (i : Int) : Option Qh := if (w64 (i + 30)) ≤ n then ((Qv.f k 1073741824).bind fun y10 => (Qi.f k ⟨x_0, x_1⟩ y10).bind fun y18 => h.l0 n y18.f_Neg y18.f_D (w64 (i + 30))) else (h.l1 n x_0 x_1 0)
noncomputable def Qx.b1 (k : Nat) (h : Qx.Hs) (n : Int) (x_0 : Bool) (x_1 : List Int) (i : Int) : Option Qh := if i < (Int.tmod n 30) then ((XV.f k ⟨x_0, x_1⟩ ⟨x_0, x_1⟩).bind fun y25 => h.l1 n y25.f_Neg y25.f_D (w64 (i + 1))) else (some (⟨x_0, x_1⟩))
noncomputable def Qx.hs : Nat → Qx.Hs
 | 0 => ⟨fun _ _ _ _ => none, fun _ _ _ _ => none⟩
 | k + 1 => ⟨fun x0 x1 x2 x3 => Qx.b0 k (Qx.hs k) x0 x1 x2 x3, fun x0 x1 x2 x3 => Qx.b1 k (Qx.hs k) x0 x1 x2 x3⟩
noncomputable def Qx.f (k : Nat) (n : Int) : Option Qh := (fun h : Qx.Hs => (Qv.f k 1).bind fun y2 => h.l0 n y2.f_Neg y2.f_D 0) (Qx.hs k)
noncomputable def Qx.Kl0 : List Item := .code (lopB (blkB (seqR (seqL (seqR (seqR Qx.C)))))) :: .inLoop (lopB (blkB (seqR (seqL (seqR (seqR Qx.C)))))) :: .inBlock 0 :: .code (seqR (seqR (seqR Qx.C))) :: []
noncomputable def Qx.Kl1 : List Item := .code (lopB (blkB (seqR (seqL (seqR (seqR (seqR Qx.C))))))) :: .inLoop (lopB (blkB (seqR (seqL (seqR (seqR (seqR Qx.C))))))) :: .inBlock 2 :: .code (seqR (seqR (seqR (seqR Qx.C)))) :: []
structure Qx.OK (h : Qx.Hs) : Prop where
 l0 : ∀ {H0 H : Hp} {L : Items} {r : Qh} {jk_ : Nat → Value} {n : Int} {x_0 : Bool} {x_1 : List Int} {i : Int} {v_x_1 : Value} {b_t2 : Nat} {b_x : Nat} (_ : H0.le H) (_he : h.l0 n x_0 x_1 i = some r) (_h_x_1 : Ro kI64 H v_x_1 x_1), Wp Tryz.prog 12 26 Qx.Kl0 (upd (upd (upd (upd jk_ 0 (.int .i64 n)) 2 (pt b_t2)) 3 (pt b_x)) 4 (.int .i64 i)) H (bx b_x [.bool x_0, v_x_1] 37 :: bx b_t2 [.bool false, .slice none 0 0] 37 :: L) (Qx.R H0 L r)
 l1 : ∀ {H0 H : Hp} {L : Items} {r : Qh} {jk_ : Nat → Value} {n : Int} {x_0 : Bool} {x_1 : List Int} {i : Int} {v_x_1 : Value} {b_t2 : Nat} {b_x : Nat} (_ : H0.le H) (_he : h.l1 n x_0 x_1 i = some r) (_h_x_1 : Ro kI64 H v_x_1 x_1), Wp Tryz.prog 12 26 Qx.Kl1 (upd (upd (upd (upd jk_ 0 (.int .i64 n)) 2 (pt b_t2)) 3 (pt b_x)) 5 (.int .i64 i)) H (bx b_x [.bool x_0, v_x_1] 37 :: bx b_t2 [.bool false, .slice none 0 0] 37 :: L) (Qx.R H0 L r)
theorem Qx.b0_ok {k : Nat} {h : Qx.Hs} (hh : Qx.OK h) {H0 H : Hp} {L : Items} {r : Qh} {jk_ : Nat → Value} {n : Int} {x_0 : Bool} {x_1 : List Int} {i : Int} {v_x_1 : Value} {b_t2 b_x : Nat} (hle : H0.le H) (he : Qx.b0 k h n x_0 x_1 i = some r) (h_x_1 : Ro kI64 H v_x_1 x_1) : Wp Tryz.prog 12 26 Qx.Kl0 (upd (upd (upd (upd jk_ 0 (.int .i64 n)) 2 (pt b_t2)) 3 (pt b_x)) 4 (.int .i64 i)) H (bx b_x [.bool x_0, v_x_1] 37 :: bx b_t2 [.bool false, .slice none 0 0] 37 :: L) (Qx.R H0 L r) := by
 unfold Qx.b0 at he
 unfold Qx.Kl0
 refine QX <| wR rfl <| wM (.int .i64 i) rfl rfl <| w_d rfl (XG (c := w64 (i + 30)) rfl rfl rfl) <| wM (.int .i64 n) rfl rfl <| w_d rfl (Gt rfl rfl) <| Qc ?_
 rcases its he with ⟨c9, he⟩ | ⟨c9, he⟩
 ·
  refine QB rfl (dt c9) <| QF <| QX <| Q8 <| bK he fun y10 hy11 he => Xv (p := 2) (tl := [2, 3]) [[], []] [some 13, some 14] (fctF (.is (.agg ⟨[.bool x_0, v_x_1]⟩) :: .of (Qv.out y10) (Qv.out_mono _) :: [])) (fun m_ => bx b_x [.bool x_0, v_x_1] 37 :: bx b_t2 [.bool false, .slice none 0 0] 37 :: L) (fun _ => none) mixed (by kernel_rfl) (by kernel_rfl) rfl (Xn (by kernel_rfl)) ⟨(fun H' m_ hH hm_ hu_ => dn <| s_d (m_ 0) rfl (Qq (v := .agg ⟨[.bool x_0, v_x_1]⟩) ty37 rfl .here rfl rfl rfl rfl) (by exact rfl) rfl), (fun H' m_ hH hm_ hu_ => dn <| s_k (m_ 1) rfl (Qj co16 (vs := [.int .i64 1073741824]) rfl (Qv.calls k hy11)) rfl (by rintro v_ H_ _ ⟨rfl, e_, h_⟩; exact ⟨rfl, e_, h_⟩)), trivial⟩ ?_
  intro H16 e17
  rintro _ _ rfl _ _ ⟨v14, rfl, h15⟩
  refine bK he fun y18 hy19 he => w_a rfl (Qj co15 (vs := [.agg ⟨[.bool x_0, v_x_1]⟩, (Qb y10 v14)]) rfl (Qi.calls k (a := ⟨x_0, x_1⟩) (b := y10) hy19 (h_x_1.mono e17) h15)) ?_
  rintro _ H20 _ ⟨rfl, e21, v22, rfl, h23⟩
  refine wS (Qb y18 v22) sz37 rfl rfl rfl rfl rfl (Q7 h23) .here u2 <| Qc <| Xp <| QH rfl <| wM (.int .i64 i) rfl rfl <| w_d rfl (XG (c := w64 (i + 30)) rfl rfl rfl) <| wA (.int .i64 (w64 (i + 30))) rfl rfl <| Qc <| Xy <| w_sl 0 (.int .i64 n) rfl <| w_sl 2 (pt b_t2) rfl <| w_sl 3 (pt b_x) rfl ?_
  refine w_sl 4 (.int .i64 (w64 (i + 30))) rfl <| hh.l0 (hle.trans (e17.trans e21)) he h23
 ·
  refine QI rfl (df c9) <| Ya rfl <| QX <| wR rfl <| wA (.int .i64 0) rfl rfl <| Qc <| Q8 <| Ye <| w_sl 0 (.int .i64 n) rfl <| w_sl 2 (pt b_t2) rfl <| w_sl 3 (pt b_x) rfl ?_
  refine w_sl 5 (.int .i64 0) rfl <| hh.l1 hle he h_x_1
theorem Qx.b1_ok {k : Nat} {h : Qx.Hs} (hh : Qx.OK h) {H0 H : Hp} {L : Items} {r : Qh} {jk_ : Nat → Value} {n : Int} {x_0 : Bool} {x_1 : List Int} {i : Int} {v_x_1 : Value} {b_t2 b_x : Nat} (hle : H0.le H) (he : Qx.b1 k h n x_0 x_1 i = some r) (h_x_1 : Ro kI64 H v_x_1 x_1) : Wp Tryz.prog 12 26 Qx.Kl1 (upd (upd (upd (upd jk_ 0 (.int .i64 n)) 2 (pt b_t2)) 3 (pt b_x)) 5 (.int .i64 i)) H (bx b_x [.bool x_0, v_x_1] 37 :: bx b_t2 [.bool false, .slice none 0 0] 37 :: L) (Qx.R H0 L r) := by
 unfold Qx.b1 at he
 unfold Qx.Kl1
 refine QX <| wR rfl <| wM (.int .i64 i) rfl rfl <| wM (.int .i64 n) rfl rfl <| w_d rfl (Js rfl rfl (by decide)) <| w_d rfl (XO rfl rfl) <| Qc ?_
 rcases its he with ⟨c24, he⟩ | ⟨c24, he⟩
 ·
  refine QB rfl (dt c24) <| QF <| QX <| Q8 <| QH rfl <| wL (.agg ⟨[.bool x_0, v_x_1]⟩) ty37 rfl rfl .here rfl rfl <| wL (.agg ⟨[.bool x_0, v_x_1]⟩) ty37 rfl rfl .here rfl rfl <| bK he fun y25 hy26 he => w_a rfl (Qj co17 (vs := [.agg ⟨[.bool x_0, v_x_1]⟩, .agg ⟨[.bool x_0, v_x_1]⟩]) rfl (XV.calls k (a := ⟨x_0, x_1⟩) (b := ⟨x_0, x_1⟩) hy26 h_x_1 h_x_1)) ?_
  rintro _ H27 _ ⟨rfl, e28, v29, rfl, h30⟩
  refine wS (Qb y25 v29) sz37 rfl rfl rfl rfl rfl (Q7 h30) .here u2 <| Qc <| Xp <| QH rfl <| wM (.int .i64 i) rfl rfl <| w_d rfl (XG (c := w64 (i + 1)) rfl rfl rfl) <| wA (.int .i64 (w64 (i + 1))) rfl rfl <| Qc <| Xy <| w_sl 0 (.int .i64 n) rfl <| w_sl 2 (pt b_t2) rfl <| w_sl 3 (pt b_x) rfl ?_
  refine w_sl 5 (.int .i64 (w64 (i + 1))) rfl <| hh.l1 (hle.trans e28) he h30
 ·
  refine QI rfl (df c24) <| Ya rfl <| wR rfl <| wL (.agg ⟨[.bool x_0, v_x_1]⟩) ty37 rfl rfl .here rfl rfl <| wS (.agg ⟨[.bool x_0, v_x_1]⟩) sz37 rfl rfl rfl rfl rfl (oc rfl (oc (h_x_1.one) oz)) .h1 u2 <| Qc ?_
  obtain rfl := sj he
  refine Qn fn_12 rs_12 (.box (v := .agg ⟨[.bool x_0, v_x_1]⟩) rfl ty37 rfl rfl .h1 rfl .nil) <| ⟨⟨[_, _], rfl⟩, hle, ⟨v_x_1, rfl, h_x_1⟩⟩
theorem Qx.ok : ∀ k, Qx.OK (Qx.hs k)
 | 0 => ⟨(by intros; exact nomatch (show none = some _ from by assumption)), (by intros; exact nomatch (show none = some _ from by assumption))⟩
 | k + 1 => ⟨Qx.b0_ok (k := k) (Qx.ok k), Qx.b1_ok (k := k) (Qx.ok k)⟩
theorem Qx.calls (k : Nat) {H : Hp} {L : Items} {n : Int} {r : Qh} (he : Qx.f k n = some r) : Ct Tryz.prog 12 ⟨[.int .i64 n]⟩ H L (cR H L (Qx.out r)) := by
 refine XS (O := Qx.out r) ?_
 have hle : H.le H := .refl _
 have hh := Qx.ok k
 unfold Qx.f at he
 refine QZ (args := [.int .i64 n]) fn_12 rfl nt_12 rfl <| wR rfl <| wN zr37 rfl rfl fun b1 => wQ rfl <| bK he fun y2 hy3 he => w_a rfl (Qj co16 (vs := [.int .i64 1]) rfl (Qv.calls k hy3)) ?_
 rintro _ H4 _ ⟨rfl, e5, v6, rfl, h7⟩
 refine wN zr37 rfl rfl fun b8 => wS (Qb y2 v6) sz37 rfl rfl rfl rfl rfl (Q7 h7) .here u2 <| wE <| wR rfl <| wA (.int .i64 0) rfl rfl <| Qc <| Q8 <| Ye <| w_sl 0 (.int .i64 n) rfl <| w_sl 2 (pt b1) rfl ?_
 refine w_sl 3 (pt b8) rfl <| w_sl 4 (.int .i64 0) rfl <| hh.l0 (hle.trans e5) he h7
noncomputable def YX.C : Code := (Tryz.f146.body).getD .skip
def YX.out (r : Bool) (H : Hp) (v : Value) : Prop := v = .bool r
noncomputable def YX.f (k : Nat) (a : Qh) (bits : Int) : Option Bool := (Qx.f k bits).bind fun y2 => (Q1.f k a.f_D y2.f_D).bind fun y12 => some (y12)
theorem YX.calls (k : Nat) {H : Hp} {L : Items} {a : Qh} {bits : Int} {v0_a : Value} {r : Bool} (he : YX.f k a bits = some r) (h0_a : Ro kI64 H v0_a a.f_D) : Ct Tryz.prog 146 ⟨[(Qb a v0_a), .int .i64 bits]⟩ H L (fun v H' L' => L = L' ∧ H = H' ∧ v = .bool r) := by
 refine Yr (O := YX.out r) (fun _ _ h => h) ?_
 have hle : H.le H := .refl _
 unfold YX.f at he
 refine QZ (args := [(Qb a v0_a), .int .i64 bits]) fn_146 rfl nt_146 rfl <| wR rfl <| wB (Qb a v0_a) rfl rfl rfl <| fun b1 => wA (.bool false) rfl rfl <| wE <| bK he fun y2 hy3 he => Xv (p := 5) (tl := [5, 6]) [[], [(0, some 5)], [], [(2, some 7)], [(3, some 8)]] [some 5, some 6, some 7, some 8, some 9] (fctF (.is (po b1 1) :: .is (v0_a) :: .is (.int .i64 bits) :: .of (Qx.out y2) (Qx.out_mono _) :: .ro kI64 (y2.f_D) :: [])) (fun m_ => bx b1 (QN a v0_a) 37 :: L) (fun _ => none) mixed (by kernel_rfl) (by kernel_rfl) rfl (Xn (by kernel_rfl)) ⟨(fun H' m_ hH hm_ hu_ => dn <| s_d (m_ 0) rfl (QM (o' := 1) Tryz.underlying37 rfl sz35 rfl rfl rfl) (by exact rfl) rfl), (by rintro H' m_ hH hm_ hu_ _ rfl; exact dn <| s_d (m_ 1) rfl (Qq (v := v0_a) ty35 rfl .here rfl rfl rfl rfl) (by exact rfl) rfl), (fun H' m_ hH hm_ hu_ => dn <| s_d (m_ 2) rfl (QR (v := .int .i64 bits) rfl) (by exact rfl) rfl), (by rintro H' m_ hH hm_ hu_ _ rfl; exact dn <| s_k (m_ 3) rfl (Qj co12 (vs := [.int .i64 bits]) rfl (Qx.calls k hy3)) rfl (by rintro v_ H_ _ ⟨rfl, e_, h_⟩; exact ⟨rfl, e_, h_⟩)), (by rintro H' m_ hH hm_ hu_ _ ⟨v6, rfl, h7⟩; exact dn <| s_d (m_ 4) rfl (Wr (v := v6) Tryz.underlying37 rfl ty35 rfl rfl rfl rfl rfl) (by exact h7) rfl), trivial⟩ ?_
 intro H10 e11
 rintro _ _ rfl _ _ rfl _ _ rfl _ _ ⟨v6, rfl, h7⟩ v8 _ (h9 : Ro kI64 H10 v8 y2.f_D)
 refine bK he fun y12 hy13 he => w_d rfl (Xi (Qj co69 (vs := [v0_a, v8]) rfl (Q1.calls k hy13 ((h0_a.mono e11).src) h9.src))) <| wA (.bool y12) rfl rfl <| Qc ?_
 obtain rfl := sj he
 refine Qn fn_146 rs_146 (.tmp (v := .bool y12) rfl .nil) <| ⟨⟨[_], rfl⟩, hle.trans e11, rfl⟩
noncomputable def Q4.C : Code := (Tryz.f132.body).getD .skip
def Q4.out (r : Bool) (H : Hp) (v : Value) : Prop := v = .bool r
abbrev Q4.R (H0 : Hp) (L : Items) (r : Bool) := fR H0 L (Q4.out r)
structure Q4.Hs where
 l0 : (List Qh) → Bool → Int → Option Bool
noncomputable def Q4.b0 (k : Nat) (h : Q4.Hs) (l : List Qh) (t2 : Bool) (i : Int) : Option Bool := if i < (l.length : Int) then (if (0 : Int) ≤ i ∧ i < (l.length : Int) then ((YX.f k (rd l i) 4096).bind fun y7 => if (!y7) = true then (some (false)) else (h.l0 l t2 (w64 (i + 1)))) else none) else (some (true))
noncomputable def Q4.hs : Nat → Q4.Hs
 | 0 => ⟨fun _ _ _ => none⟩
 | k + 1 => ⟨fun x0 x1 x2 => Q4.b0 k (Q4.hs k) x0 x1 x2⟩
noncomputable def Q4.f (k : Nat) (l : List Qh) : Option Bool := (fun h : Q4.Hs => h.l0 l false 0) (Q4.hs k)
noncomputable def Q4.Kl0 : List Item := .code (lopB (blkB (seqR (seqL (seqR Q4.C))))) :: .inLoop (lopB (blkB (seqR (seqL (seqR Q4.C))))) :: .inBlock 0 :: .code (seqR (seqR Q4.C)) :: []
structure Q4.OK (h : Q4.Hs) : Prop where
 l0 : ∀ {H0 H : Hp} {L : Items} {r : Bool} {jk_ : Nat → Value} {l : List Qh} {t2 : Bool} {i : Int} {v_l : Value} (_ : H0.le H) (_he : h.l0 l t2 i = some r) (_h_l : Src Yk H L v_l l), Wp Tryz.prog 132 16 Q4.Kl0 (upd (upd (upd jk_ 0 (v_l)) 2 (.bool t2)) 3 (.int .i64 i)) H (L) (Q4.R H0 L r)
theorem Q4.b0_ok {k : Nat} {h : Q4.Hs} (hh : Q4.OK h) {H0 H : Hp} {L : Items} {r : Bool} {jk_ : Nat → Value} {l : List Qh} {t2 : Bool} {i : Int} {v_l : Value} (hle : H0.le H) (he : Q4.b0 k h l t2 i = some r) (h_l : Src Yk H L v_l l) : Wp Tryz.prog 132 16 Q4.Kl0 (upd (upd (upd jk_ 0 (v_l)) 2 (.bool t2)) 3 (.int .i64 i)) H (L) (Q4.R H0 L r) := by
 unfold Q4.b0 at he
 unfold Q4.Kl0
 refine QX <| wR rfl <| wM (.int .i64 i) rfl rfl <| wM v_l rfl rfl <| w_d rfl (XL Tryz.underlying185 rfl h_l) <| w_d rfl (XO rfl rfl) <| Qc ?_
 rcases its he with ⟨c1, he⟩ | ⟨c1, he⟩
 ·
  refine QB rfl (dt c1) <| QF <| QX <| Q8 <| wR rfl <| wM v_l rfl rfl <| wM (.int .i64 i) rfl rfl <| rK he fun c2 he => w_d rfl (XT (sz := 2) Tryz.underlying185 sz37 rfl h_l rfl c2) ?_
  obtain ⟨_, l3, r4⟩ := Z5 (kd := Yk) h_l c2
  obtain ⟨v5, rfl, h6⟩ := ZO r4
  refine w_d rfl (ZE (v := .agg ⟨[.bool ((rd l i).f_Neg), v5]⟩) (cs := [.bool ((rd l i).f_Neg), v5]) ty37 rfl rfl (by decide) l3 rfl) <| bK he fun y7 hy8 he => w_d rfl (Xi (Qj co146 (vs := [.agg ⟨[.bool ((rd l i).f_Neg), v5]⟩, .int .i64 4096]) rfl (YX.calls k (a := (rd l i)) hy8 h6))) <| w_d rfl (Zg (b := y7) rfl) <| Qc ?_
  rcases its he with ⟨c11, he⟩ | ⟨c11, he⟩
  ·
   refine QB rfl c11 <| wR rfl <| wA (.bool false) rfl rfl <| Qc ?_
   obtain rfl := sj he
   refine Qn fn_132 rs_132 (.tmp (v := .bool false) rfl .nil) <| ⟨⟨[], rfl⟩, hle, rfl⟩
  ·
   refine QI rfl (Bool.eq_false_iff.2 c11) <| QF <| Xp <| QH rfl <| wM (.int .i64 i) rfl rfl <| w_d rfl (XG (c := w64 (i + 1)) rfl rfl rfl) <| wA (.int .i64 (w64 (i + 1))) rfl rfl <| Qc <| Xy <| w_sl 0 (v_l) rfl <| w_sl 2 (.bool t2) rfl <| w_sl 3 (.int .i64 (w64 (i + 1))) rfl <| hh.l0 hle he h_l
 ·
  refine QI rfl (df c1) <| Ya rfl <| wR rfl <| wA (.bool true) rfl rfl <| Qc ?_
  obtain rfl := sj he
  refine Qn fn_132 rs_132 (.tmp (v := .bool true) rfl .nil) <| ⟨⟨[], rfl⟩, hle, rfl⟩
theorem Q4.ok : ∀ k, Q4.OK (Q4.hs k)
 | 0 => ⟨(by intros; exact nomatch (show none = some _ from by assumption))⟩
 | k + 1 => ⟨Q4.b0_ok (k := k) (Q4.ok k)⟩
theorem Q4.calls (k : Nat) {H : Hp} {L : Items} {l : List Qh} {v0_l : Value} {r : Bool} (he : Q4.f k l = some r) (h0_l : Src Yk H L v0_l l) : Ct Tryz.prog 132 ⟨[v0_l]⟩ H L (fun v H' L' => L = L' ∧ H = H' ∧ v = .bool r) := by
 refine Yr (O := Q4.out r) (fun _ _ h => h) ?_
 have hle : H.le H := .refl _
 have hh := Q4.ok k
 unfold Q4.f at he
 refine QZ (args := [v0_l]) fn_132 rfl nt_132 rfl <| wR rfl <| wA (.bool false) rfl rfl <| wE <| wR rfl <| wA (.int .i64 0) rfl rfl <| Qc <| Q8 <| Ye ?_
 refine w_sl 0 (v0_l) rfl <| w_sl 2 (.bool false) rfl <| w_sl 3 (.int .i64 0) rfl <| hh.l0 hle he h0_l
noncomputable def Y9.C : Code := (Tryz.f100.body).getD .skip
def Y9.out (r : Int) (H : Hp) (v : Value) : Prop := v = .int .i64 r
noncomputable def Y9.f (k : Nat) (a b : Qh) : Option Int := (YS.f k a b).bind fun y3 => (XK.f k y3).bind fun y9 => some (y9)
theorem Y9.calls (k : Nat) {H : Hp} {L : Items} {a b : Qh} {v0_a v1_b : Value} {r : Int} (he : Y9.f k a b = some r) (h0_a : Ro kI64 H v0_a a.f_D) (h1_b : Ro kI64 H v1_b b.f_D) : Ct Tryz.prog 100 ⟨[(Qb a v0_a), (Qb b v1_b)]⟩ H L (fun v H' L' => L = L' ∧ H = H' ∧ v = .int .i64 r) := by
 refine Yr (O := Y9.out r) (fun _ _ h => h) ?_
 have hle : H.le H := .refl _
 unfold Y9.f at he
 refine QZ (args := [(Qb a v0_a), (Qb b v1_b)]) fn_100 rfl nt_100 rfl <| wR rfl <| wB (Qb a v0_a) rfl rfl rfl <| fun b1 => wB (Qb b v1_b) rfl rfl rfl <| fun b2 => wA (.int .i64 0) rfl rfl <| wQ rfl <| wL (Qb a v0_a) ty37 rfl rfl .h1 rfl rfl <| wL (Qb b v1_b) ty37 rfl rfl .here rfl rfl <| bK he fun y3 hy4 he => ?_
 refine w_a rfl (Qj co14 (vs := [(Qb a v0_a), (Qb b v1_b)]) rfl (YS.calls k (a := a) (b := b) hy4 h0_a h1_b)) ?_
 rintro _ H5 _ ⟨rfl, e6, v7, rfl, h8⟩
 refine bK he fun y9 hy10 he => w_d rfl (Xi (Qj co62 (vs := [(Qb y3 v7)]) rfl (XK.calls k (a := y3) hy10 h8))) <| wA (.int .i64 y9) rfl rfl <| Qc ?_
 obtain rfl := sj he
 refine Qn fn_100 rs_100 (.tmp (v := .int .i64 y9) rfl .nil) <| ⟨⟨[_, _], rfl⟩, hle.trans e6, rfl⟩
noncomputable def Y4.C : Code := (Tryz.f108.body).getD .skip
def Y4.out (r : Int × Int) (H : Hp) (v : Value) : Prop := v = .tuple ⟨[.int .i64 r.1, .int .i64 r.2]⟩
noncomputable def Y4.f (k : Nat) (a b : QJ) : Option (Int × Int) := (Qi.f k a.f_N b.f_D).bind fun y3 => (Qi.f k b.f_N a.f_D).bind fun y9 => (Q4.f k [y3, y9]).bind fun y22 => if (!y22) = true then (some (0, 12)) else ((Y9.f k y3 y9).bind fun y27 => some (y27, 0))
theorem Y4.calls (k : Nat) {H : Hp} {L : Items} {a b : QJ} {v0_a v1_a v2_b v3_b : Value} {r : Int × Int} (he : Y4.f k a b = some r) (h0_a : Ro kI64 H v0_a a.f_N.f_D) (h1_a : Ro kI64 H v1_a a.f_D.f_D) (h2_b : Ro kI64 H v2_b b.f_N.f_D) (h3_b : Ro kI64 H v3_b b.f_D.f_D) : Ct Tryz.prog 108 ⟨[(Qe a v0_a v1_a), (Qe b v2_b v3_b)]⟩ H L (fun v H' L' => L = L' ∧ H = H' ∧ v = .tuple ⟨[.int .i64 r.1, .int .i64 r.2]⟩) := by
 refine Yr (O := Y4.out r) (fun _ _ h => h) ?_
 have hle : H.le H := .refl _
 unfold Y4.f at he
 refine QZ (args := [(Qe a v0_a v1_a), (Qe b v2_b v3_b)]) fn_108 rfl nt_108 rfl <| wR rfl <| wB (Qe a v0_a v1_a) rfl rfl rfl <| fun b1 => wB (Qe b v2_b v3_b) rfl rfl rfl <| fun b2 => wA (.int .i64 0) rfl rfl <| wA (.int .i64 0) rfl rfl <| wE <| bK he fun y3 hy4 he => bK he fun y9 hy10 he => ?_
 refine YF (YF (?_))
 refine Xv (p := 12) (tl := [12, 13]) [[], [(0, some 8)], [], [(2, some 10)], [(1, some 9), (3, some 11)], [], [(5, some 13)], [], [(7, some 15)], [(6, some 14), (8, some 16)], [], []] [some 8, some 9, some 10, some 11, some 12, some 13, some 14, some 15, some 16, some 17, some 6, some 7] (fctF (.is (pt b1) :: .is (Qb a.f_N v0_a) :: .is (po b2 2) :: .is (Qb b.f_D v3_b) :: .of (Qi.out y3) (Qi.out_mono _) :: .is (pt b2) :: .is (Qb b.f_N v2_b) :: .is (po b1 2) :: .is (Qb a.f_D v1_a) :: .of (Qi.out y9) (Qi.out_mono _) :: .box 37 [.bool false, .slice none 0 0] :: .box 37 [.bool false, .slice none 0 0] :: [])) (fun m_ => m_ 10 :: m_ 11 :: bx b2 (XB b v2_b v3_b) 40 :: bx b1 (XB a v0_a v1_a) 40 :: L) (fun _ => none) mixed (by kernel_rfl) (by kernel_rfl) rfl (Xn (by kernel_rfl)) ⟨(fun H' m_ hH hm_ hu_ => dn <| s_d (m_ 0) rfl (QM (o' := 0) Tryz.underlying40 rfl sz37 rfl rfl rfl) (by exact rfl) rfl), (by rintro H' m_ hH hm_ hu_ _ rfl; exact dn <| s_d (m_ 1) rfl (Qq (v := (Qb a.f_N v0_a)) ty37 rfl .h3 rfl rfl rfl rfl) (by exact rfl) rfl), (fun H' m_ hH hm_ hu_ => dn <| s_d (m_ 2) rfl (QM (o' := 2) Tryz.underlying40 rfl sz37 rfl rfl rfl) (by exact rfl) rfl), (by rintro H' m_ hH hm_ hu_ _ rfl; exact dn <| s_d (m_ 3) rfl (Qq (v := (Qb b.f_D v3_b)) ty37 rfl .h2 rfl rfl rfl rfl) (by exact rfl) rfl), (by rintro H' m_ hH hm_ hu_ _ rfl _ rfl; exact dn <| s_k (m_ 4) rfl (Qj co15 (vs := [(Qb a.f_N v0_a), (Qb b.f_D v3_b)]) rfl (Qi.calls k (a := a.f_N) (b := b.f_D) hy4 (h0_a.mono hH) (h3_b.mono hH))) rfl (by rintro v_ H_ _ ⟨rfl, e_, h_⟩; exact ⟨rfl, e_, h_⟩)), (fun H' m_ hH hm_ hu_ => dn <| s_d (m_ 5) rfl (QM (o' := 0) Tryz.underlying40 rfl sz37 rfl rfl rfl) (by exact rfl) rfl), (by rintro H' m_ hH hm_ hu_ _ rfl; exact dn <| s_d (m_ 6) rfl (Qq (v := (Qb b.f_N v2_b)) ty37 rfl .h2 rfl rfl rfl rfl) (by exact rfl) rfl), (fun H' m_ hH hm_ hu_ => dn <| s_d (m_ 7) rfl (QM (o' := 2) Tryz.underlying40 rfl sz37 rfl rfl rfl) (by exact rfl) rfl), (by rintro H' m_ hH hm_ hu_ _ rfl; exact dn <| s_d (m_ 8) rfl (Qq (v := (Qb a.f_D v1_a)) ty37 rfl .h3 rfl rfl rfl rfl) (by exact rfl) rfl), (by rintro H' m_ hH hm_ hu_ _ rfl _ rfl; exact dn <| s_k (m_ 9) rfl (Qj co15 (vs := [(Qb b.f_N v2_b), (Qb a.f_D v1_a)]) rfl (Qi.calls k (a := b.f_N) (b := a.f_D) hy10 (h2_b.mono hH) (h1_a.mono hH))) rfl (by rintro v_ H_ _ ⟨rfl, e_, h_⟩; exact ⟨rfl, e_, h_⟩)), (fun H' m_ hH hm_ hu_ => dn <| Ze hm_ rfl rfl (YJ zr37 rfl) rfl (fun _ => .here) (by exact fun b_ => ⟨b_, rfl, rfl⟩)), (fun H' m_ hH hm_ hu_ => dn <| Ze hm_ rfl rfl (YJ zr37 rfl) rfl (fun _ => .h1) (by exact fun b_ => ⟨b_, rfl, rfl⟩)), trivial⟩ ?_
 intro H17 e18
 rintro _ _ rfl _ _ rfl _ _ rfl _ _ rfl _ _ ⟨v7, rfl, h8⟩ _ _ rfl _ _ rfl _ _ rfl _ _ rfl _ _ ⟨v13, rfl, h14⟩ _ _ ⟨b15, rfl, rfl⟩ _ _ ⟨b16, rfl, rfl⟩
 refine wS (Qb y3 v7) sz37 rfl rfl rfl rfl rfl (Q7 h8) .here u2 <| wS (Qb y9 v13) sz37 rfl rfl rfl rfl rfl (Q7 h14) .h1 u2 <| wE <| wR rfl <| wL (Qb y3 v7) ty37 rfl rfl .here rfl rfl <| wL (Qb y9 v13) ty37 rfl rfl .h1 rfl rfl <| w_a rfl (o_buildSlice' (kd := Yk) (css := [(QN y3 v7), (QN y9 v13)]) (xs := [y3, y9]) (parts := [(0, (Qb y3 v7)), (1, (Qb y9 v13))]) Tryz.underlying185 ti37 rfl ⟨_, _, rfl, rfl, ⟨_, _, rfl, rfl, rfl⟩⟩ ⟨(YE (x := y3) h8), ⟨(YE (x := y9) h14), trivial⟩⟩ rfl (by decide)) ?_
 rintro v19 _ _ ⟨i20, rfl, rfl, h21⟩
 refine bK he fun y22 hy23 he => w_d rfl (Xi (Qj co132 (vs := [v19]) rfl (Q4.calls k hy23 (h21.src .here)))) <| w_d rfl (Zg (b := y22) rfl) <| Qc ?_
 rcases its he with ⟨c26, he⟩ | ⟨c26, he⟩
 ·
  refine QB rfl c26 <| wR rfl <| wA (.int .i64 0) rfl rfl <| wA (.int .i64 12) rfl rfl <| Qc ?_
  obtain rfl := sj he
  refine Qn fn_108 rs_108 (.tmp (v := .int .i64 0) rfl (.tmp (v := .int .i64 12) rfl .nil)) <| ⟨⟨[_, _, _, _, _], rfl⟩, hle.trans e18, rfl⟩
 ·
  refine QI rfl (Bool.eq_false_iff.2 c26) <| QF <| wR rfl <| wL (Qb y3 v7) ty37 rfl rfl .h1 rfl rfl <| wL (Qb y9 v13) ty37 rfl rfl .h2 rfl rfl <| bK he fun y27 hy28 he => w_d rfl (Xi (Qj co100 (vs := [(Qb y3 v7), (Qb y9 v13)]) rfl (Y9.calls k (a := y3) (b := y9) hy28 h8 h14))) <| wA (.int .i64 y27) rfl rfl <| wA (.int .i64 0) rfl rfl <| Qc ?_
  obtain rfl := sj he
  refine Qn fn_108 rs_108 (.tmp (v := .int .i64 y27) rfl (.tmp (v := .int .i64 0) rfl .nil)) <| ⟨⟨[_, _, _, _, _], rfl⟩, hle.trans e18, rfl⟩
noncomputable def X7.C : Code := (Tryz.f86.body).getD .skip
def X7.out (r : Bool) (H : Hp) (v : Value) : Prop := v = .bool r
noncomputable def X7.f (k : Nat) (a b : QJ) : Option Bool := (Y4.f k a b).bind fun y3 => some (decide (y3.1 < 0))
theorem X7.calls (k : Nat) {H : Hp} {L : Items} {a b : QJ} {v0_a v1_a v2_b v3_b : Value} {r : Bool} (he : X7.f k a b = some r) (h0_a : Ro kI64 H v0_a a.f_N.f_D) (h1_a : Ro kI64 H v1_a a.f_D.f_D) (h2_b : Ro kI64 H v2_b b.f_N.f_D) (h3_b : Ro kI64 H v3_b b.f_D.f_D) : Ct Tryz.prog 86 ⟨[(Qe a v0_a v1_a), (Qe b v2_b v3_b)]⟩ H L (fun v H' L' => L = L' ∧ H = H' ∧ v = .bool r) := by
 refine Yr (O := X7.out r) (fun _ _ h => h) ?_
 have hle : H.le H := .refl _
 unfold X7.f at he
 refine QZ (args := [(Qe a v0_a v1_a), (Qe b v2_b v3_b)]) fn_86 rfl nt_86 rfl <| wR rfl <| wB (Qe a v0_a v1_a) rfl rfl rfl <| fun b1 => wB (Qe b v2_b v3_b) rfl rfl rfl <| fun b2 => wA (.bool false) rfl rfl <| wQ rfl <| wL (Qe a v0_a v1_a) ty40 rfl rfl .h1 rfl rfl <| wL (Qe b v2_b v3_b) ty40 rfl rfl .here rfl rfl <| bK he fun y3 hy4 he => ?_
 refine w_d rfl (Xi (Qj co108 (vs := [(Qe a v0_a v1_a), (Qe b v2_b v3_b)]) rfl (Y4.calls k (a := a) (b := b) hy4 h0_a h1_a h2_b h3_b))) <| wM (.tuple ⟨[.int .i64 y3.1, .int .i64 y3.2]⟩) rfl rfl <| w_d rfl (QS rfl rfl) <| w_d rfl (QS rfl rfl) <| wA (.int .i64 y3.1) rfl rfl <| wA (.int .i64 y3.2) rfl rfl <| wQ rfl <| wM (.int .i64 y3.1) rfl rfl <| w_d rfl (XO rfl rfl) <| wA (.bool (decide (y3.1 < 0))) rfl rfl ?_
 refine Qc ?_
 obtain rfl := sj he
 refine Qn fn_86 rs_86 (.tmp (v := .bool (decide (y3.1 < 0))) rfl .nil) <| ⟨⟨[_, _], rfl⟩, hle, rfl⟩
noncomputable def Yp.C : Code := (Tryz.f32.body).getD .skip
def Yp.out (r : Bool) (H : Hp) (v : Value) : Prop := v = .bool r
noncomputable def Yp.f (k : Nat) (a : Xg) : Option Bool := (X7.f k a.f_High a.f_Low).bind fun y2 => some (!y2)
theorem Yp.calls (k : Nat) {H : Hp} {L : Items} {a : Xg} {v0_a v1_a v2_a v3_a : Value} {r : Bool} (he : Yp.f k a = some r) (h0_a : Ro kI64 H v0_a a.f_Low.f_N.f_D) (h1_a : Ro kI64 H v1_a a.f_Low.f_D.f_D) (h2_a : Ro kI64 H v2_a a.f_High.f_N.f_D) (h3_a : Ro kI64 H v3_a a.f_High.f_D.f_D) : Ct Tryz.prog 32 ⟨[(Qk a v0_a v1_a v2_a v3_a)]⟩ H L (fun v H' L' => L = L' ∧ H = H' ∧ v = .bool r) := by
 refine Yr (O := Yp.out r) (fun _ _ h => h) ?_
 have hle : H.le H := .refl _
 unfold Yp.f at he
 refine QZ (args := [(Qk a v0_a v1_a v2_a v3_a)]) fn_32 rfl nt_32 rfl <| wR rfl <| wB (Qk a v0_a v1_a v2_a v3_a) rfl rfl rfl <| fun b1 => wA (.bool false) rfl rfl <| wQ rfl <| w_d rfl (QM (o' := 4) Tryz.underlying45 rfl sz40 rfl rfl rfl) <| wL (Qe a.f_High v2_a v3_a) ty40 rfl rfl .here rfl rfl <| w_d rfl (QM (o' := 0) Tryz.underlying45 rfl sz40 rfl rfl rfl) <| wL (Qe a.f_Low v0_a v1_a) ty40 rfl rfl .here rfl rfl ?_
 refine bK he fun y2 hy3 he => w_d rfl (Xi (Qj co86 (vs := [(Qe a.f_High v2_a v3_a), (Qe a.f_Low v0_a v1_a)]) rfl (X7.calls k (a := a.f_High) (b := a.f_Low) hy3 h2_a h3_a h0_a h1_a))) <| w_d rfl (Zg (b := y2) rfl) <| wA (.bool (!y2)) rfl rfl <| Qc ?_
 obtain rfl := sj he
 refine Qn fn_32 rs_32 (.tmp (v := .bool (!y2)) rfl .nil) <| ⟨⟨[_], rfl⟩, hle, rfl⟩
noncomputable def Xo.C : Code := (Tryz.f22.body).getD .skip
def Xo.out (r : Xg) (H : Hp) (v : Value) : Prop := ∃ v0 v1 v2 v3, v = (Qk r v0 v1 v2 v3) ∧ Ro kI64 H v0 r.f_Low.f_N.f_D ∧ Ro kI64 H v1 r.f_Low.f_D.f_D ∧ Ro kI64 H v2 r.f_High.f_N.f_D ∧ Ro kI64 H v3 r.f_High.f_D.f_D
theorem Xo.out_mono (r : Xg) {H H' : Hp} {v : Value} (hle : H.le H') (h : Xo.out r H v) : Xo.out r H' v := by
 obtain ⟨v0, v1, v2, v3, rfl, h0, h1, h2, h3⟩ := h; exact ⟨v0, v1, v2, v3, rfl, h0.mono hle, h1.mono hle, h2.mono hle, h3.mono hle⟩
structure Xo.Hs where
noncomputable def Xo.hs : Nat → Xo.Hs
 | 0 => ⟨⟩
 | k + 1 => ⟨⟩
noncomputable def Xo.f (k : Nat) (e_ : Yf) (order : Bool) : Option Xg := (fun h : Xo.Hs => if (0 : Int) ≤ 0 ∧ (0 : Int) ≤ min (e_.f_L.e0.length : Int) 15 ∧ min (e_.f_L.e0.length : Int) 15 ≤ (e_.f_L.e0.length : Int) then (if (0 : Int) ≤ 0 ∧ (0 : Int) ≤ min (e_.f_L.e1.length : Int) 15 ∧ min (e_.f_L.e1.length : Int) 15 ≤ (e_.f_L.e1.length : Int) then (if (0 : Int) ≤ 0 ∧ (0 : Int) ≤ min (e_.f_L.e2.length : Int) 15 ∧ min (e_.f_L.e2.length : Int) 15 ≤ (e_.f_L.e2.length : Int) then (if (0 : Int) ≤ 0 ∧ (0 : Int) ≤ min (e_.f_L.e3.length : Int) 15 ∧ min (e_.f_L.e3.length : Int) 15 ≤ (e_.f_L.e3.length : Int) then ((XI.f k (cut e_.f_L.e0 0 (min (e_.f_L.e0.length : Int) 15)) (cut e_.f_L.e1 0 (min (e_.f_L.e1.length : Int) 15)) e_.f_Neg.e0).bind fun y24 => (XI.f k (cut e_.f_L.e2 0 (min (e_.f_L.e2.length : Int) 15)) (cut e_.f_L.e3 0 (min (e_.f_L.e3.length : Int) 15)) e_.f_Neg.e1).bind fun y32 => (gd order (Yp.f k ⟨y24, y32⟩) (false)).bind fun y47 => if (order && (!y47)) = true then (some (⟨y32, y24⟩)) else (some (⟨y24, y32⟩))) else none) else none) else none) else none) (Xo.hs k)
structure Xo.OK (h : Xo.Hs) : Prop where
theorem Xo.ok : ∀ k, Xo.OK (Xo.hs k)
 | 0 => ⟨⟩
 | k + 1 => ⟨⟩
theorem Xo.calls (k : Nat) {H : Hp} {L : Items} {e_ : Yf} {order : Bool} {v0_e_ v1_e_ v2_e_ v3_e_ : Value} {r : Xg} (he : Xo.f k e_ order = some r) (h0_e_ : Ro kU8 H v0_e_ e_.f_L.e0) (h1_e_ : Ro kU8 H v1_e_ e_.f_L.e1) (h2_e_ : Ro kU8 H v2_e_ e_.f_L.e2) (h3_e_ : Ro kU8 H v3_e_ e_.f_L.e3) : Ct Tryz.prog 22 ⟨[(Yc e_ v0_e_ v1_e_ v2_e_ v3_e_), .bool order]⟩ H L (cR H L (Xo.out r)) := by
 refine XS (O := Xo.out r) ?_
 have hle : H.le H := .refl _
 have hh := Xo.ok k
 unfold Xo.f at he
 refine QZ (args := [(Yc e_ v0_e_ v1_e_ v2_e_ v3_e_), .bool order]) fn_22 rfl nt_22 rfl <| wR rfl <| wB (Yc e_ v0_e_ v1_e_ v2_e_ v3_e_) rfl rfl rfl <| fun b1 => wN zr45 rfl rfl fun b2 => wQ rfl <| wN zr53 rfl rfl fun b3 => wE <| QX ?_
 refine QH rfl <| wA (.int .i64 0) rfl rfl <| Qc <| Q8 <| Ye <| QX <| wR rfl <| wM (.int .i64 0) rfl rfl <| w_d rfl (XO rfl rfl) <| Qc <| QB rfl rfl ?_
 refine QF <| QX <| Q8 <| rK he fun c4 he => Xv (p := 12) (tl := [12, 13]) [[], [], [], [(1, some 15), (2, some 16)], [(3, some 17)], [], [], [(5, some 19), (6, some 20)], [(7, some 21)], [(8, some 22)], [(9, some 23)], [(4, some 18), (10, some 24)]] [some 14, some 15, some 16, some 17, some 18, some 19, some 20, some 21, some 22, some 23, some 24, some 25] (fctF (.is (.int .i64 0) :: .is (.int .i64 0) :: .is (pt b1) :: .is (pt b1) :: .is (v0_e_) :: .is (.int .i64 0) :: .is (pt b1) :: .is (pt b1) :: .is (v0_e_) :: .is (.int .i64 (e_.f_L.e0.length : Int)) :: .is (.int .i64 (min (e_.f_L.e0.length : Int) 15)) :: .ro kU8 (cut e_.f_L.e0 0 (min (e_.f_L.e0.length : Int) 15)) :: [])) (fun m_ => bx b3 z1c 53 :: bx b2 z2c 45 :: bx b1 (Yn e_ v0_e_ v1_e_ v2_e_ v3_e_) 56 :: L) (fun _ => none) mixed (by kernel_rfl) (by kernel_rfl) rfl (Xn (by kernel_rfl)) ⟨(fun H' m_ hH hm_ hu_ => dn <| s_d (m_ 0) rfl (QR (v := .int .i64 0) rfl) (by exact rfl) rfl), (fun H' m_ hH hm_ hu_ => dn <| s_d (m_ 1) rfl (QR (v := .int .i64 0) rfl) (by exact rfl) rfl), (fun H' m_ hH hm_ hu_ => dn <| s_d (m_ 2) rfl (QM (o' := 0) Tryz.underlying56 rfl sz53 rfl rfl rfl) (by exact rfl) rfl), (by rintro H' m_ hH hm_ hu_ _ rfl _ rfl; exact dn <| s_d (m_ 3) rfl (Y7 (o' := 0) Tryz.underlying53 sz52 rfl rfl (by decide) rfl) (by exact rfl) rfl), (by rintro H' m_ hH hm_ hu_ _ rfl; exact dn <| s_d (m_ 4) rfl (Qq (v := v0_e_) ty52 rfl .h2 rfl rfl rfl rfl) (by exact rfl) rfl), (fun H' m_ hH hm_ hu_ => dn <| s_d (m_ 5) rfl (QR (v := .int .i64 0) rfl) (by exact rfl) rfl), (fun H' m_ hH hm_ hu_ => dn <| s_d (m_ 6) rfl (QM (o' := 0) Tryz.underlying56 rfl sz53 rfl rfl rfl) (by exact rfl) rfl), (by rintro H' m_ hH hm_ hu_ _ rfl _ rfl; exact dn <| s_d (m_ 7) rfl (Y7 (o' := 0) Tryz.underlying53 sz52 rfl rfl (by decide) rfl) (by exact rfl) rfl), (by rintro H' m_ hH hm_ hu_ _ rfl; exact dn <| s_d (m_ 8) rfl (Qq (v := v0_e_) ty52 rfl .h2 rfl rfl rfl rfl) (by exact rfl) rfl), (by rintro H' m_ hH hm_ hu_ _ rfl; exact dn <| s_d (m_ 9) rfl (XL Tryz.underlying52 rfl (h0_e_.mono hH).src) (by exact rfl) rfl), (by rintro H' m_ hH hm_ hu_ _ rfl; exact dn <| s_d (m_ 10) rfl (M4 rfl rfl) (by exact rfl) rfl), (by rintro H' m_ hH hm_ hu_ _ rfl _ rfl; exact dn <| s_k (m_ 11) rfl (JX (kd := kU8) Tryz.underlying52 sz5 rfl (h0_e_.mono hH) (.inl ⟨rfl, rfl⟩) (.inr ⟨_, _, rfl, rfl⟩) c4) rfl (by rintro v_ _ _ ⟨h_, rfl, rfl⟩; exact ⟨rfl, .refl _, h_⟩)), trivial⟩ ?_
 intro H7 e8
 rintro _ _ rfl _ _ rfl _ _ rfl _ _ rfl _ _ rfl _ _ rfl _ _ rfl _ _ rfl _ _ rfl _ _ rfl _ _ rfl v5 _ (h6 : Ro kU8 H7 v5 (cut e_.f_L.e0 0 (min (e_.f_L.e0.length : Int) 15)))
 refine w_d rfl (Y7 (o' := 0) Tryz.underlying53 sz52 rfl rfl (by decide) rfl) <| w_a0 rfl (YW (v := v5) sz52 rfl rfl h6.cells rfl (oc (h6.one) oz) .here u1) ?_
 rintro _ _ _ ⟨rfl, rfl, rfl⟩
 refine Qc <| Xp <| QH rfl <| wM (.int .i64 0) rfl rfl <| w_d rfl (XG (c := 1) rfl rfl (by decide)) <| wA (.int .i64 1) rfl rfl <| Qc <| Xy <| QX <| wR rfl <| wM (.int .i64 1) rfl rfl ?_
 refine w_d rfl (XO rfl rfl) <| Qc <| QB rfl rfl <| QF <| QX <| Q8 <| rK he fun c9 he => Xv (p := 12) (tl := [12, 13]) [[], [], [], [(1, some 15), (2, some 16)], [(3, some 17)], [], [], [(5, some 19), (6, some 20)], [(7, some 21)], [(8, some 22)], [(9, some 23)], [(4, some 18), (10, some 24)]] [some 14, some 15, some 16, some 17, some 18, some 19, some 20, some 21, some 22, some 23, some 24, some 25] (fctF (.is (.int .i64 1) :: .is (.int .i64 1) :: .is (pt b1) :: .is (po b1 1) :: .is (v1_e_) :: .is (.int .i64 1) :: .is (pt b1) :: .is (po b1 1) :: .is (v1_e_) :: .is (.int .i64 (e_.f_L.e1.length : Int)) :: .is (.int .i64 (min (e_.f_L.e1.length : Int) 15)) :: .ro kU8 (cut e_.f_L.e1 0 (min (e_.f_L.e1.length : Int) 15)) :: [])) (fun m_ => bx b3 [v5, .slice none 0 0, .slice none 0 0, .slice none 0 0] 53 :: bx b2 z2c 45 :: bx b1 (Yn e_ v0_e_ v1_e_ v2_e_ v3_e_) 56 :: L) (fun _ => none) mixed (by kernel_rfl) (by kernel_rfl) rfl (Xn (by kernel_rfl)) ⟨(fun H' m_ hH hm_ hu_ => dn <| s_d (m_ 0) rfl (QR (v := .int .i64 1) rfl) (by exact rfl) rfl), (fun H' m_ hH hm_ hu_ => dn <| s_d (m_ 1) rfl (QR (v := .int .i64 1) rfl) (by exact rfl) rfl), (fun H' m_ hH hm_ hu_ => dn <| s_d (m_ 2) rfl (QM (o' := 0) Tryz.underlying56 rfl sz53 rfl rfl rfl) (by exact rfl) rfl), (by rintro H' m_ hH hm_ hu_ _ rfl _ rfl; exact dn <| s_d (m_ 3) rfl (Y7 (o' := 1) Tryz.underlying53 sz52 rfl rfl (by decide) rfl) (by exact rfl) rfl), (by rintro H' m_ hH hm_ hu_ _ rfl; exact dn <| s_d (m_ 4) rfl (Qq (v := v1_e_) ty52 rfl .h2 rfl rfl rfl rfl) (by exact rfl) rfl), (fun H' m_ hH hm_ hu_ => dn <| s_d (m_ 5) rfl (QR (v := .int .i64 1) rfl) (by exact rfl) rfl), (fun H' m_ hH hm_ hu_ => dn <| s_d (m_ 6) rfl (QM (o' := 0) Tryz.underlying56 rfl sz53 rfl rfl rfl) (by exact rfl) rfl), (by rintro H' m_ hH hm_ hu_ _ rfl _ rfl; exact dn <| s_d (m_ 7) rfl (Y7 (o' := 1) Tryz.underlying53 sz52 rfl rfl (by decide) rfl) (by exact rfl) rfl), (by rintro H' m_ hH hm_ hu_ _ rfl; exact dn <| s_d (m_ 8) rfl (Qq (v := v1_e_) ty52 rfl .h2 rfl rfl rfl rfl) (by exact rfl) rfl), (by rintro H' m_ hH hm_ hu_ _ rfl; exact dn <| s_d (m_ 9) rfl (XL Tryz.underlying52 rfl (h1_e_.mono (e8.trans hH)).src) (by exact rfl) rfl), (by rintro H' m_ hH hm_ hu_ _ rfl; exact dn <| s_d (m_ 10) rfl (M4 rfl rfl) (by exact rfl) rfl), (by rintro H' m_ hH hm_ hu_ _ rfl _ rfl; exact dn <| s_k (m_ 11) rfl (JX (kd := kU8) Tryz.underlying52 sz5 rfl (h1_e_.mono (e8.trans hH)) (.inl ⟨rfl, rfl⟩) (.inr ⟨_, _, rfl, rfl⟩) c9) rfl (by rintro v_ _ _ ⟨h_, rfl, rfl⟩; exact ⟨rfl, .refl _, h_⟩)), trivial⟩ ?_
 intro H12 e13
 rintro _ _ rfl _ _ rfl _ _ rfl _ _ rfl _ _ rfl _ _ rfl _ _ rfl _ _ rfl _ _ rfl _ _ rfl _ _ rfl v10 _ (h11 : Ro kU8 H12 v10 (cut e_.f_L.e1 0 (min (e_.f_L.e1.length : Int) 15)))
 refine w_d rfl (Y7 (o' := 1) Tryz.underlying53 sz52 rfl rfl (by decide) rfl) <| w_a0 rfl (YW (v := v10) sz52 rfl rfl h11.cells rfl (oc (h11.one) oz) .here (.there u1)) ?_
 rintro _ _ _ ⟨rfl, rfl, rfl⟩
 refine Qc <| Xp <| QH rfl <| wM (.int .i64 1) rfl rfl <| w_d rfl (XG (c := 2) rfl rfl (by decide)) <| wA (.int .i64 2) rfl rfl <| Qc <| Xy <| QX <| wR rfl <| wM (.int .i64 2) rfl rfl ?_
 refine w_d rfl (XO rfl rfl) <| Qc <| QB rfl rfl <| QF <| QX <| Q8 <| rK he fun c14 he => Xv (p := 12) (tl := [12, 13]) [[], [], [], [(1, some 15), (2, some 16)], [(3, some 17)], [], [], [(5, some 19), (6, some 20)], [(7, some 21)], [(8, some 22)], [(9, some 23)], [(4, some 18), (10, some 24)]] [some 14, some 15, some 16, some 17, some 18, some 19, some 20, some 21, some 22, some 23, some 24, some 25] (fctF (.is (.int .i64 2) :: .is (.int .i64 2) :: .is (pt b1) :: .is (po b1 2) :: .is (v2_e_) :: .is (.int .i64 2) :: .is (pt b1) :: .is (po b1 2) :: .is (v2_e_) :: .is (.int .i64 (e_.f_L.e2.length : Int)) :: .is (.int .i64 (min (e_.f_L.e2.length : Int) 15)) :: .ro kU8 (cut e_.f_L.e2 0 (min (e_.f_L.e2.length : Int) 15)) :: [])) (fun m_ => bx b3 [v5, v10, .slice none 0 0, .slice none 0 0] 53 :: bx b2 z2c 45 :: bx b1 (Yn e_ v0_e_ v1_e_ v2_e_ v3_e_) 56 :: L) (fun _ => none) mixed (by kernel_rfl) (by kernel_rfl) rfl (Xn (by kernel_rfl)) ⟨(fun H' m_ hH hm_ hu_ => dn <| s_d (m_ 0) rfl (QR (v := .int .i64 2) rfl) (by exact rfl) rfl), (fun H' m_ hH hm_ hu_ => dn <| s_d (m_ 1) rfl (QR (v := .int .i64 2) rfl) (by exact rfl) rfl), (fun H' m_ hH hm_ hu_ => dn <| s_d (m_ 2) rfl (QM (o' := 0) Tryz.underlying56 rfl sz53 rfl rfl rfl) (by exact rfl) rfl), (by rintro H' m_ hH hm_ hu_ _ rfl _ rfl; exact dn <| s_d (m_ 3) rfl (Y7 (o' := 2) Tryz.underlying53 sz52 rfl rfl (by decide) rfl) (by exact rfl) rfl), (by rintro H' m_ hH hm_ hu_ _ rfl; exact dn <| s_d (m_ 4) rfl (Qq (v := v2_e_) ty52 rfl .h2 rfl rfl rfl rfl) (by exact rfl) rfl), (fun H' m_ hH hm_ hu_ => dn <| s_d (m_ 5) rfl (QR (v := .int .i64 2) rfl) (by exact rfl) rfl), (fun H' m_ hH hm_ hu_ => dn <| s_d (m_ 6) rfl (QM (o' := 0) Tryz.underlying56 rfl sz53 rfl rfl rfl) (by exact rfl) rfl), (by rintro H' m_ hH hm_ hu_ _ rfl _ rfl; exact dn <| s_d (m_ 7) rfl (Y7 (o' := 2) Tryz.underlying53 sz52 rfl rfl (by decide) rfl) (by exact rfl) rfl), (by rintro H' m_ hH hm_ hu_ _ rfl; exact dn <| s_d (m_ 8) rfl (Qq (v := v2_e_) ty52 rfl .h2 rfl rfl rfl rfl) (by exact rfl) rfl), (by rintro H' m_ hH hm_ hu_ _ rfl; exact dn <| s_d (m_ 9) rfl (XL Tryz.underlying52 rfl (h2_e_.mono ((e8.trans e13).trans hH)).src) (by exact rfl) rfl), (by rintro H' m_ hH hm_ hu_ _ rfl; exact dn <| s_d (m_ 10) rfl (M4 rfl rfl) (by exact rfl) rfl), (by rintro H' m_ hH hm_ hu_ _ rfl _ rfl; exact dn <| s_k (m_ 11) rfl (JX (kd := kU8) Tryz.underlying52 sz5 rfl (h2_e_.mono ((e8.trans e13).trans hH)) (.inl ⟨rfl, rfl⟩) (.inr ⟨_, _, rfl, rfl⟩) c14) rfl (by rintro v_ _ _ ⟨h_, rfl, rfl⟩; exact ⟨rfl, .refl _, h_⟩)), trivial⟩ ?_
 intro H17 e18
 rintro _ _ rfl _ _ rfl _ _ rfl _ _ rfl _ _ rfl _ _ rfl _ _ rfl _ _ rfl _ _ rfl _ _ rfl _ _ rfl v15 _ (h16 : Ro kU8 H17 v15 (cut e_.f_L.e2 0 (min (e_.f_L.e2.length : Int) 15)))
 refine w_d rfl (Y7 (o' := 2) Tryz.underlying53 sz52 rfl rfl (by decide) rfl) <| w_a0 rfl (YW (v := v15) sz52 rfl rfl h16.cells rfl (oc (h16.one) oz) .here (.there (.there u1))) ?_
 rintro _ _ _ ⟨rfl, rfl, rfl⟩
 refine Qc <| Xp <| QH rfl <| wM (.int .i64 2) rfl rfl <| w_d rfl (XG (c := 3) rfl rfl (by decide)) <| wA (.int .i64 3) rfl rfl <| Qc <| Xy <| QX <| wR rfl <| wM (.int .i64 3) rfl rfl ?_
 refine w_d rfl (XO rfl rfl) <| Qc <| QB rfl rfl <| QF <| QX <| Q8 <| rK he fun c19 he => Xv (p := 12) (tl := [12, 13]) [[], [], [], [(1, some 15), (2, some 16)], [(3, some 17)], [], [], [(5, some 19), (6, some 20)], [(7, some 21)], [(8, some 22)], [(9, some 23)], [(4, some 18), (10, some 24)]] [some 14, some 15, some 16, some 17, some 18, some 19, some 20, some 21, some 22, some 23, some 24, some 25] (fctF (.is (.int .i64 3) :: .is (.int .i64 3) :: .is (pt b1) :: .is (po b1 3) :: .is (v3_e_) :: .is (.int .i64 3) :: .is (pt b1) :: .is (po b1 3) :: .is (v3_e_) :: .is (.int .i64 (e_.f_L.e3.length : Int)) :: .is (.int .i64 (min (e_.f_L.e3.length : Int) 15)) :: .ro kU8 (cut e_.f_L.e3 0 (min (e_.f_L.e3.length : Int) 15)) :: [])) (fun m_ => bx b3 [v5, v10, v15, .slice none 0 0] 53 :: bx b2 z2c 45 :: bx b1 (Yn e_ v0_e_ v1_e_ v2_e_ v3_e_) 56 :: L) (fun _ => none) mixed (by kernel_rfl) (by kernel_rfl) rfl (Xn (by kernel_rfl)) ⟨(fun H' m_ hH hm_ hu_ => dn <| s_d (m_ 0) rfl (QR (v := .int .i64 3) rfl) (by exact rfl) rfl), (fun H' m_ hH hm_ hu_ => dn <| s_d (m_ 1) rfl (QR (v := .int .i64 3) rfl) (by exact rfl) rfl), (fun H' m_ hH hm_ hu_ => dn <| s_d (m_ 2) rfl (QM (o' := 0) Tryz.underlying56 rfl sz53 rfl rfl rfl) (by exact rfl) rfl), (by rintro H' m_ hH hm_ hu_ _ rfl _ rfl; exact dn <| s_d (m_ 3) rfl (Y7 (o' := 3) Tryz.underlying53 sz52 rfl rfl (by decide) rfl) (by exact rfl) rfl), (by rintro H' m_ hH hm_ hu_ _ rfl; exact dn <| s_d (m_ 4) rfl (Qq (v := v3_e_) ty52 rfl .h2 rfl rfl rfl rfl) (by exact rfl) rfl), (fun H' m_ hH hm_ hu_ => dn <| s_d (m_ 5) rfl (QR (v := .int .i64 3) rfl) (by exact rfl) rfl), (fun H' m_ hH hm_ hu_ => dn <| s_d (m_ 6) rfl (QM (o' := 0) Tryz.underlying56 rfl sz53 rfl rfl rfl) (by exact rfl) rfl), (by rintro H' m_ hH hm_ hu_ _ rfl _ rfl; exact dn <| s_d (m_ 7) rfl (Y7 (o' := 3) Tryz.underlying53 sz52 rfl rfl (by decide) rfl) (by exact rfl) rfl), (by rintro H' m_ hH hm_ hu_ _ rfl; exact dn <| s_d (m_ 8) rfl (Qq (v := v3_e_) ty52 rfl .h2 rfl rfl rfl rfl) (by exact rfl) rfl), (by rintro H' m_ hH hm_ hu_ _ rfl; exact dn <| s_d (m_ 9) rfl (XL Tryz.underlying52 rfl (h3_e_.mono (((e8.trans e13).trans e18).trans hH)).src) (by exact rfl) rfl), (by rintro H' m_ hH hm_ hu_ _ rfl; exact dn <| s_d (m_ 10) rfl (M4 rfl rfl) (by exact rfl) rfl), (by rintro H' m_ hH hm_ hu_ _ rfl _ rfl; exact dn <| s_k (m_ 11) rfl (JX (kd := kU8) Tryz.underlying52 sz5 rfl (h3_e_.mono (((e8.trans e13).trans e18).trans hH)) (.inl ⟨rfl, rfl⟩) (.inr ⟨_, _, rfl, rfl⟩) c19) rfl (by rintro v_ _ _ ⟨h_, rfl, rfl⟩; exact ⟨rfl, .refl _, h_⟩)), trivial⟩ ?_
 intro H22 e23
 rintro _ _ rfl _ _ rfl _ _ rfl _ _ rfl _ _ rfl _ _ rfl _ _ rfl _ _ rfl _ _ rfl _ _ rfl _ _ rfl v20 _ (h21 : Ro kU8 H22 v20 (cut e_.f_L.e3 0 (min (e_.f_L.e3.length : Int) 15)))
 refine w_d rfl (Y7 (o' := 3) Tryz.underlying53 sz52 rfl rfl (by decide) rfl) <| w_a0 rfl (YW (v := v20) sz52 rfl rfl h21.cells rfl (oc (h21.one) oz) .here (.there (.there (.there u1)))) ?_
 rintro _ _ _ ⟨rfl, rfl, rfl⟩
 refine Qc <| Xp <| QH rfl <| wM (.int .i64 3) rfl rfl <| w_d rfl (XG (c := 4) rfl rfl (by decide)) <| wA (.int .i64 4) rfl rfl <| Qc <| Xy <| QX <| wR rfl <| wM (.int .i64 4) rfl rfl ?_
 refine w_d rfl (XO rfl rfl) <| Qc <| QI rfl rfl <| Ya rfl <| QX <| bK he fun y24 hy25 he => bK he fun y32 hy33 he => ?_
 refine YF (YF (?_))
 refine Xv (p := 18) (tl := [18, 19]) [[], [(0, some 27)], [], [(2, some 29)], [], [(4, some 31)], [(5, some 32)], [(1, some 28), (3, some 30), (6, some 33)], [], [(8, some 35)], [], [(10, some 37)], [], [(12, some 39)], [(13, some 40)], [(9, some 36), (11, some 38), (14, some 41)], [], []] [some 27, some 28, some 29, some 30, some 31, some 32, some 33, some 34, some 35, some 36, some 37, some 38, some 39, some 40, some 41, some 42, some 7, some 8] (fctF (.is (pt b3) :: .is (v5) :: .is (po b3 1) :: .is (v10) :: .is (po b1 4) :: .is (po b1 4) :: .is (.bool e_.f_Neg.e0) :: .of (XI.out y24) (XI.out_mono _) :: .is (po b3 2) :: .is (v15) :: .is (po b3 3) :: .is (v20) :: .is (po b1 4) :: .is (po b1 5) :: .is (.bool e_.f_Neg.e1) :: .of (XI.out y32) (XI.out_mono _) :: .box 40 z0c :: .box 40 z0c :: [])) (fun m_ => m_ 16 :: m_ 17 :: bx b3 [v5, v10, v15, v20] 53 :: bx b2 z2c 45 :: bx b1 (Yn e_ v0_e_ v1_e_ v2_e_ v3_e_) 56 :: L) (fun _ => none) mixed (by kernel_rfl) (by kernel_rfl) rfl (Xn (by kernel_rfl)) ⟨(fun H' m_ hH hm_ hu_ => dn <| s_d (m_ 0) rfl (Y7 (o' := 0) Tryz.underlying53 sz52 rfl rfl (by decide) rfl) (by exact rfl) rfl), (by rintro H' m_ hH hm_ hu_ _ rfl; exact dn <| s_d (m_ 1) rfl (Qq (v := v5) ty52 rfl .h2 rfl rfl rfl rfl) (by exact rfl) rfl), (fun H' m_ hH hm_ hu_ => dn <| s_d (m_ 2) rfl (Y7 (o' := 1) Tryz.underlying53 sz52 rfl rfl (by decide) rfl) (by exact rfl) rfl), (by rintro H' m_ hH hm_ hu_ _ rfl; exact dn <| s_d (m_ 3) rfl (Qq (v := v10) ty52 rfl .h2 rfl rfl rfl rfl) (by exact rfl) rfl), (fun H' m_ hH hm_ hu_ => dn <| s_d (m_ 4) rfl (QM (o' := 4) Tryz.underlying56 rfl sz54 rfl rfl rfl) (by exact rfl) rfl), (by rintro H' m_ hH hm_ hu_ _ rfl; exact dn <| s_d (m_ 5) rfl (Y7 (o' := 4) Tryz.underlying54 sz4 rfl rfl (by decide) rfl) (by exact rfl) rfl), (by rintro H' m_ hH hm_ hu_ _ rfl; exact dn <| s_d (m_ 6) rfl (Qq (v := .bool e_.f_Neg.e0) ty4 rfl .h4 rfl rfl rfl rfl) (by exact rfl) rfl), (by rintro H' m_ hH hm_ hu_ _ rfl _ rfl _ rfl; exact dn <| s_k (m_ 7) rfl (Qj co75 (vs := [v5, v10, .bool e_.f_Neg.e0]) rfl (XI.calls k hy25 ((h6.mono (((e13.trans e18).trans e23).trans hH)).src) ((h11.mono ((e18.trans e23).trans hH)).src))) rfl (by rintro v_ H_ _ ⟨rfl, e_, h_⟩; exact ⟨rfl, e_, h_⟩)), (fun H' m_ hH hm_ hu_ => dn <| s_d (m_ 8) rfl (Y7 (o' := 2) Tryz.underlying53 sz52 rfl rfl (by decide) rfl) (by exact rfl) rfl), (by rintro H' m_ hH hm_ hu_ _ rfl; exact dn <| s_d (m_ 9) rfl (Qq (v := v15) ty52 rfl .h2 rfl rfl rfl rfl) (by exact rfl) rfl), (fun H' m_ hH hm_ hu_ => dn <| s_d (m_ 10) rfl (Y7 (o' := 3) Tryz.underlying53 sz52 rfl rfl (by decide) rfl) (by exact rfl) rfl), (by rintro H' m_ hH hm_ hu_ _ rfl; exact dn <| s_d (m_ 11) rfl (Qq (v := v20) ty52 rfl .h2 rfl rfl rfl rfl) (by exact rfl) rfl), (fun H' m_ hH hm_ hu_ => dn <| s_d (m_ 12) rfl (QM (o' := 4) Tryz.underlying56 rfl sz54 rfl rfl rfl) (by exact rfl) rfl), (by rintro H' m_ hH hm_ hu_ _ rfl; exact dn <| s_d (m_ 13) rfl (Y7 (o' := 5) Tryz.underlying54 sz4 rfl rfl (by decide) rfl) (by exact rfl) rfl), (by rintro H' m_ hH hm_ hu_ _ rfl; exact dn <| s_d (m_ 14) rfl (Qq (v := .bool e_.f_Neg.e1) ty4 rfl .h4 rfl rfl rfl rfl) (by exact rfl) rfl), (by rintro H' m_ hH hm_ hu_ _ rfl _ rfl _ rfl; exact dn <| s_k (m_ 15) rfl (Qj co75 (vs := [v15, v20, .bool e_.f_Neg.e1]) rfl (XI.calls k hy33 ((h16.mono (e23.trans hH)).src) ((h21.mono hH).src))) rfl (by rintro v_ H_ _ ⟨rfl, e_, h_⟩; exact ⟨rfl, e_, h_⟩)), (fun H' m_ hH hm_ hu_ => dn <| Ze hm_ rfl rfl (YJ zr40 rfl) rfl (fun _ => .here) (by exact fun b_ => ⟨b_, rfl, rfl⟩)), (fun H' m_ hH hm_ hu_ => dn <| Ze hm_ rfl rfl (YJ zr40 rfl) rfl (fun _ => .h1) (by exact fun b_ => ⟨b_, rfl, rfl⟩)), trivial⟩ ?_
 intro H42 e43
 rintro _ _ rfl _ _ rfl _ _ rfl _ _ rfl _ _ rfl _ _ rfl _ _ rfl _ _ ⟨v28, v30, rfl, h29, h31⟩ _ _ rfl _ _ rfl _ _ rfl _ _ rfl _ _ rfl _ _ rfl _ _ rfl _ _ ⟨v36, v38, rfl, h37, h39⟩ _ _ ⟨b40, rfl, rfl⟩ _ _ ⟨b41, rfl, rfl⟩
 refine wS (Qe y24 v28 v30) sz40 rfl rfl rfl rfl rfl (Yg h29 h31) .here u4 <| wS (Qe y32 v36 v38) sz40 rfl rfl rfl rfl rfl (Yg h37 h39) .h1 u4 <| wQ rfl <| wL (Qe y24 v28 v30) ty40 rfl rfl .here rfl rfl <| wL (Qe y32 v36 v38) ty40 rfl rfl .h1 rfl rfl <| w_d rfl (Xx (cs' := [.bool y24.f_N.f_Neg, v28, .bool y24.f_D.f_Neg, v30, .bool y32.f_N.f_Neg, v36, .bool y32.f_D.f_Neg, v38]) Tryz.underlying45 zr45 rfl (by kernel_rfl) (parts := [(0, (Qe y24 v28 v30)), (1, (Qe y32 v36 v38))]) rfl (.cons (X2 rfl sz40 rfl) rfl rfl u4 (.cons (X2 rfl sz40 rfl) rfl rfl (.there (.there (.there (.there u4)))) .nil))) <| wN zr45 rfl rfl fun b44 => wS (.agg ⟨[.bool y24.f_N.f_Neg, v28, .bool y24.f_D.f_Neg, v30, .bool y32.f_N.f_Neg, v36, .bool y32.f_D.f_Neg, v38]⟩) sz45 rfl rfl rfl rfl rfl (oc rfl (oc (h29.one) (oc rfl (oc (h31.one) (oc rfl (oc (h37.one) (oc rfl (oc (h39.one) oz)))))))) .here (.here (.here (.here (.here u4)))) <| wE ?_
 refine wR rfl <| wM (.bool order) rfl rfl <| wM (.bool order) rfl rfl <| w_g (g := order) rfl rfl rfl wn_t (fun g45 => Qq (v := .agg ⟨[.bool y24.f_N.f_Neg, v28, .bool y24.f_D.f_Neg, v30, .bool y32.f_N.f_Neg, v36, .bool y32.f_D.f_Neg, v38]⟩) ty45 rfl .here rfl rfl rfl rfl) <| bK he fun y47 hy48 he => w_g (g := order) rfl rfl rfl wn_t (fun g46 => Xi (Qj co32 (vs := [.agg ⟨[.bool y24.f_N.f_Neg, v28, .bool y24.f_D.f_Neg, v30, .bool y32.f_N.f_Neg, v36, .bool y32.f_D.f_Neg, v38]⟩]) (acons (cvt g46) (anil)) (Yp.calls k (a := ⟨y24, y32⟩) (gd_t g46 hy48) h29 h31 h37 h39))) <| w_g (g := order) rfl rfl rfl wn_t (fun g51 => Zg (b := y47) (cvt g51)) <| w_d rfl (d_and' (b := order) (p := (!y47)) rfl rfl rfl) <| Qc ?_
 rcases its he with ⟨c52, he⟩ | ⟨c52, he⟩
 ·
  refine QB rfl c52 <| wR rfl <| wL (Qe y32 v36 v38) ty40 rfl rfl .h2 rfl rfl <| wL (Qe y24 v28 v30) ty40 rfl rfl .h1 rfl rfl <| w_d rfl (Xx (cs' := [.bool y32.f_N.f_Neg, v36, .bool y32.f_D.f_Neg, v38, .bool y24.f_N.f_Neg, v28, .bool y24.f_D.f_Neg, v30]) Tryz.underlying45 zr45 rfl (by kernel_rfl) (parts := [(0, (Qe y32 v36 v38)), (1, (Qe y24 v28 v30))]) rfl (.cons (X2 rfl sz40 rfl) rfl rfl u4 (.cons (X2 rfl sz40 rfl) rfl rfl (.there (.there (.there (.there u4)))) .nil))) <| wS (.agg ⟨[.bool y32.f_N.f_Neg, v36, .bool y32.f_D.f_Neg, v38, .bool y24.f_N.f_Neg, v28, .bool y24.f_D.f_Neg, v30]⟩) sz45 rfl rfl rfl rfl rfl (oc rfl (oc (h37.one) (oc rfl (oc (h39.one) (oc rfl (oc (h29.one) (oc rfl (oc (h31.one) oz)))))))) .h4 (.here (.here (.here (.here u4)))) <| Qc ?_
  obtain rfl := sj he
  refine Qn fn_22 rs_22 (.box (v := .agg ⟨[.bool y32.f_N.f_Neg, v36, .bool y32.f_D.f_Neg, v38, .bool y24.f_N.f_Neg, v28, .bool y24.f_D.f_Neg, v30]⟩) rfl ty45 rfl rfl .h4 rfl .nil) <| ⟨⟨[_, _, _, _, _, _], rfl⟩, hle.trans ((((e8.trans e13).trans e18).trans e23).trans e43), ⟨v36, v38, v28, v30, rfl, h37, h39, h29, h31⟩⟩
 ·
  refine QI rfl (Bool.eq_false_iff.2 c52) <| QF <| wR rfl <| wL (.agg ⟨[.bool y24.f_N.f_Neg, v28, .bool y24.f_D.f_Neg, v30, .bool y32.f_N.f_Neg, v36, .bool y32.f_D.f_Neg, v38]⟩) ty45 rfl rfl .here rfl rfl <| wS (.agg ⟨[.bool y24.f_N.f_Neg, v28, .bool y24.f_D.f_Neg, v30, .bool y32.f_N.f_Neg, v36, .bool y32.f_D.f_Neg, v38]⟩) sz45 rfl rfl rfl rfl rfl (oc rfl (oc (h29.one) (oc rfl (oc (h31.one) (oc rfl (oc (h37.one) (oc rfl (oc (h39.one) oz)))))))) .h4 (.here (.here (.here (.here u4)))) <| Qc ?_
  obtain rfl := sj he
  refine Qn fn_22 rs_22 (.box (v := .agg ⟨[.bool y24.f_N.f_Neg, v28, .bool y24.f_D.f_Neg, v30, .bool y32.f_N.f_Neg, v36, .bool y32.f_D.f_Neg, v38]⟩) rfl ty45 rfl rfl .h4 rfl .nil) <| ⟨⟨[_, _, _, _, _, _], rfl⟩, hle.trans ((((e8.trans e13).trans e18).trans e23).trans e43), ⟨v28, v30, v36, v38, rfl, h29, h31, h37, h39⟩⟩
end Go.Proofs.YtkccpkccdbfomaaGreatDoor.GSS

/- printed by gen.py -/
import Derived.Test.YtkccpkccdbfomaaGreatDoorGSHx0
namespace Go.Proofs.YtkccpkccdbfomaaGreatDoor.GSH
open Go Go.RowKit Go.Proofs.YtkccpkccdbfomaaGreatDoorK Go.Proofs.YtkccpkccdbfomaaGreatDoor
set_option maxRecDepth 100000
set_option maxHeartbeats 2000000
set_option linter.unusedVariables false
set_option linter.unusedSimpArgs false
noncomputable def radomeref01_Div.C : Code := (Tryz.f65.body).getD .skip
def radomeref01_Div.out (r : radomeref01_Num × radomeref01_Num) (H : Hp) (v : Value) : Prop := ∃ v0, ∃ v1, v = .tuple ⟨[.agg ⟨[.bool r.1.f_Neg, v0]⟩, .agg ⟨[.bool r.2.f_Neg, v1]⟩]⟩ ∧ Ro kI64 H v0 r.1.f_D ∧ Ro kI64 H v1 r.2.f_D
theorem radomeref01_Div.out_mono (r : radomeref01_Num × radomeref01_Num) {H H' : Hp} {v : Value} (hle : H.le H') (h : radomeref01_Div.out r H v) : radomeref01_Div.out r H' v := by
 obtain ⟨v0, v1, rfl, h0, h1⟩ := h; exact ⟨v0, v1, rfl, h0.mono hle, h1.mono hle⟩
abbrev radomeref01_Div.R (H0 : Hp) (L : Items) (r : radomeref01_Num × radomeref01_Num) := fR H0 L (radomeref01_Div.out r)
structure radomeref01_Div.Hs where
 l0 : Bool → (List Int) → Bool → (List Int) → (List Int) → (List Int) → Int → Option (radomeref01_Num × radomeref01_Num)
 l1 : Bool → (List Int) → Bool → (List Int) → (List Int) → (List Int) → Int → Option (radomeref01_Num × radomeref01_Num)
noncomputable def radomeref01_Div.b0 (k : Nat) (h : radomeref01_Div.Hs)  (a_0 : Bool) (a_1 : List Int) (b_0 : Bool) (b_1 : List Int) (rest : List Int) (q : List Int) (i : Int) : Option (radomeref01_Num × radomeref01_Num) := if 0 ≤ i then (if (0 : Int) ≤ i ∧ i < (a_1.length : Int) then (if [rd a_1 i].length + rest.length ≤ 17592186044288 then ((radomeref01_trim.f k ([rd a_1 i] ++ rest)).bind fun y21 => h.l1 a_0 a_1 b_0 b_1 y21 q i) else none) else none) else ((radomeref01_trim.f k q).bind fun y30 => (radomeref01_num.f k (!(a_0 == b_0)) y30).bind fun y36 => (radomeref01_num.f k false rest).bind fun y45 => if (a_0 && (decide (0 < (rest.length : Int)))) = true then ((radomeref01_minus.f k b_1 rest).bind fun y56 => (radomeref01_num.f k false y56).bind fun y62 => if b_0 = true then ((radomeref01_Of.f k 1).bind fun y69 => (radomeref01_Add.f k y36 y69).bind fun y77 => some (y77, y62)) else ((radomeref01_Of.f k 1).bind fun y85 => (radomeref01_Sub.f k y36 y85).bind fun y93 => some (y93, y62))) else (some (y36, y45)))
noncomputable def radomeref01_Div.b1 (k : Nat) (h : radomeref01_Div.Hs)  (a_0 : Bool) (a_1 : List Int) (b_0 : Bool) (b_1 : List Int) (rest : List Int) (q : List Int) (i : Int) : Option (radomeref01_Num × radomeref01_Num) := (radomeref01_Less.f k rest b_1).bind fun y103 => if (!y103) = true then ((radomeref01_minus.f k rest b_1).bind fun y108 => if (0 : Int) ≤ i ∧ i < (q.length : Int) then (if (0 : Int) ≤ i ∧ i < (q.length : Int) then (h.l1 a_0 a_1 b_0 b_1 y108 (q.set (i : Int).toNat (w64 ((rd q i) + 1))) i) else none) else none) else (h.l0 a_0 a_1 b_0 b_1 rest q (w64 (i - 1)))
noncomputable def radomeref01_Div.hs : Nat → radomeref01_Div.Hs
 | 0 => ⟨fun _ _ _ _ _ _ _ => none, fun _ _ _ _ _ _ _ => none⟩
 | k + 1 => ⟨fun x0 x1 x2 x3 x4 x5 x6 => radomeref01_Div.b0 k (radomeref01_Div.hs k) x0 x1 x2 x3 x4 x5 x6, fun x0 x1 x2 x3 x4 x5 x6 => radomeref01_Div.b1 k (radomeref01_Div.hs k) x0 x1 x2 x3 x4 x5 x6⟩
noncomputable def radomeref01_Div.f (k : Nat) (a : radomeref01_Num) (b : radomeref01_Num) : Option (radomeref01_Num × radomeref01_Num) := (fun h : radomeref01_Div.Hs => if 0 ≤ (a.f_D.length : Int) ∧ (a.f_D.length : Int) ≤ 35184372088832 then (h.l0 a.f_Neg a.f_D b.f_Neg b.f_D [] (List.replicate ((a.f_D.length : Int) : Int).toNat (0 : Int)) (w64 ((a.f_D.length : Int) - 1))) else none) (radomeref01_Div.hs k)
noncomputable def radomeref01_Div.Kl0 : List Item := .code (lopB (blkB (seqR (seqL (seqR (seqR (seqR radomeref01_Div.C))))))) :: .inLoop (lopB (blkB (seqR (seqL (seqR (seqR (seqR radomeref01_Div.C))))))) :: .inBlock 0 :: .code (seqR (seqR (seqR (seqR radomeref01_Div.C)))) :: []
noncomputable def radomeref01_Div.Kl1 : List Item := .code (lopB (blkB (seqR (blkB (seqL (seqR (lopB (blkB (seqR (seqL (seqR (seqR (seqR radomeref01_Div.C))))))))))))) :: .inLoop (lopB (blkB (seqR (blkB (seqL (seqR (lopB (blkB (seqR (seqL (seqR (seqR (seqR radomeref01_Div.C))))))))))))) :: .inBlock 2 :: .inBlock 1 :: .code (seqR (seqR (lopB (blkB (seqR (seqL (seqR (seqR (seqR radomeref01_Div.C))))))))) :: .inLoop (lopB (blkB (seqR (seqL (seqR (seqR (seqR radomeref01_Div.C))))))) :: .inBlock 0 :: .code (seqR (seqR (seqR (seqR radomeref01_Div.C)))) :: []
structure radomeref01_Div.OK (h : radomeref01_Div.Hs) : Prop where
 l0 : ∀ {H0 H : Hp} {L : Items} {r : radomeref01_Num × radomeref01_Num} {jk_ : Nat → Value} {a_0 : Bool} {a_1 : List Int} {b_0 : Bool} {b_1 : List Int} {rest : List Int} {q : List Int} {i : Int} {v_a_1 : Value} {v_b_1 : Value} {v_rest : Value} {v_q : Value} {i_q : Item'} {b_a : Nat} {b_b : Nat} {b_t4 : Nat} {b_t5 : Nat} (_ : H0.le H) (_he : h.l0 a_0 a_1 b_0 b_1 rest q i = some r) (_h_a_1 : Ro kI64 H v_a_1 a_1) (_h_b_1 : Ro kI64 H v_b_1 b_1) (_h_rest : Ro kI64 H v_rest rest) (_h_q : Sl kI64 H 3 i_q v_q q), Wp Tryz.prog 65 79 radomeref01_Div.Kl0 (upd (upd (upd (upd (upd (upd (upd jk_ 2 (.pointer (some ⟨b_a, 0, none⟩))) 3 (.pointer (some ⟨b_b, 0, none⟩))) 4 (.pointer (some ⟨b_t4, 0, none⟩))) 5 (.pointer (some ⟨b_t5, 0, none⟩))) 6 (v_rest)) 7 (v_q)) 8 (.int .i64 i)) H (i_q :: some (b_t5, .cells ⟨[.bool false, .slice none 0 0]⟩ 37 (0, 0)) :: some (b_t4, .cells ⟨[.bool false, .slice none 0 0]⟩ 37 (0, 0)) :: some (b_b, .cells ⟨[.bool b_0, v_b_1]⟩ 37 (0, 0)) :: some (b_a, .cells ⟨[.bool a_0, v_a_1]⟩ 37 (0, 0)) :: L) (radomeref01_Div.R H0 L r)
 l1 : ∀ {H0 H : Hp} {L : Items} {r : radomeref01_Num × radomeref01_Num} {jk_ : Nat → Value} {a_0 : Bool} {a_1 : List Int} {b_0 : Bool} {b_1 : List Int} {rest : List Int} {q : List Int} {i : Int} {v_a_1 : Value} {v_b_1 : Value} {v_rest : Value} {v_q : Value} {i_q : Item'} {b_a : Nat} {b_b : Nat} {b_t4 : Nat} {b_t5 : Nat} (_ : H0.le H) (_he : h.l1 a_0 a_1 b_0 b_1 rest q i = some r) (_h_a_1 : Ro kI64 H v_a_1 a_1) (_h_b_1 : Ro kI64 H v_b_1 b_1) (_h_rest : Ro kI64 H v_rest rest) (_h_q : Sl kI64 H 3 i_q v_q q), Wp Tryz.prog 65 79 radomeref01_Div.Kl1 (upd (upd (upd (upd (upd (upd (upd jk_ 2 (.pointer (some ⟨b_a, 0, none⟩))) 3 (.pointer (some ⟨b_b, 0, none⟩))) 4 (.pointer (some ⟨b_t4, 0, none⟩))) 5 (.pointer (some ⟨b_t5, 0, none⟩))) 6 (v_rest)) 7 (v_q)) 8 (.int .i64 i)) H (i_q :: some (b_t5, .cells ⟨[.bool false, .slice none 0 0]⟩ 37 (0, 0)) :: some (b_t4, .cells ⟨[.bool false, .slice none 0 0]⟩ 37 (0, 0)) :: some (b_b, .cells ⟨[.bool b_0, v_b_1]⟩ 37 (0, 0)) :: some (b_a, .cells ⟨[.bool a_0, v_a_1]⟩ 37 (0, 0)) :: L) (radomeref01_Div.R H0 L r)
theorem radomeref01_Div.b0_ok {k : Nat} {h : radomeref01_Div.Hs} (hh : radomeref01_Div.OK h) {H0 H : Hp} {L : Items} {r : radomeref01_Num × radomeref01_Num} {jk_ : Nat → Value} {a_0 : Bool} {a_1 : List Int} {b_0 : Bool} {b_1 : List Int} {rest : List Int} {q : List Int} {i : Int} {v_a_1 : Value} {v_b_1 : Value} {v_rest : Value} {v_q : Value} {i_q : Item'} {b_a : Nat} {b_b : Nat} {b_t4 : Nat} {b_t5 : Nat} (hle : H0.le H) (he : radomeref01_Div.b0 k h a_0 a_1 b_0 b_1 rest q i = some r) (h_a_1 : Ro kI64 H v_a_1 a_1) (h_b_1 : Ro kI64 H v_b_1 b_1) (h_rest : Ro kI64 H v_rest rest) (h_q : Sl kI64 H 3 i_q v_q q) : Wp Tryz.prog 65 79 radomeref01_Div.Kl0 (upd (upd (upd (upd (upd (upd (upd jk_ 2 (.pointer (some ⟨b_a, 0, none⟩))) 3 (.pointer (some ⟨b_b, 0, none⟩))) 4 (.pointer (some ⟨b_t4, 0, none⟩))) 5 (.pointer (some ⟨b_t5, 0, none⟩))) 6 (v_rest)) 7 (v_q)) 8 (.int .i64 i)) H (i_q :: some (b_t5, .cells ⟨[.bool false, .slice none 0 0]⟩ 37 (0, 0)) :: some (b_t4, .cells ⟨[.bool false, .slice none 0 0]⟩ 37 (0, 0)) :: some (b_b, .cells ⟨[.bool b_0, v_b_1]⟩ 37 (0, 0)) :: some (b_a, .cells ⟨[.bool a_0, v_a_1]⟩ 37 (0, 0)) :: L) (radomeref01_Div.R H0 L r) := by
 unfold radomeref01_Div.b0 at he
 unfold radomeref01_Div.Kl0
 refine w_seq <| wR rfl <| wM (.int .i64 i) rfl rfl <| w_d rfl (d_geq rfl rfl) <| w_done ?_
 rcases its he with ⟨c9, he⟩ | ⟨c9, he⟩
 ·
  refine w_then rfl (dt c9) <| w_skip <| w_seq <| w_block <| wR rfl <| w_d rfl (d_fld (o' := 1) Tryz.underlying37 rfl sz35 rfl rfl rfl) <| wL v_a_1 ty35 rfl rfl (.there (.there (.there (.there .here)))) rfl rfl <| wM (.int .i64 i) rfl rfl ?_
  obtain ⟨c10, he⟩ := rq he
  refine w_d rfl (d_index (sz := 1) Tryz.underlying35 sz3 rfl h_a_1.src rfl c10) <| w_d rfl (d_ldint ty3 rfl h_a_1.src c10) <| w_a rfl (o_buildSlice' (kd := kI64) (css := [[.int .i64 (rd a_1 i)]]) (xs := [rd a_1 i]) (parts := [(0, .int .i64 (rd a_1 i))]) Tryz.underlying35 ti3 rfl ⟨_, _, rfl, rfl, rfl⟩ ⟨rfl, trivial⟩ rfl (by decide)) ?_
  rintro v11 _ _ ⟨i12, rfl, rfl, h13⟩
  refine wM v_rest rfl rfl ?_
  obtain ⟨c14, he⟩ := rq he
  refine w_a rfl (o_append' (kd := kI64) (F := fun z_ => z_ :: i_q :: some (b_t5, .cells ⟨[.bool false, .slice none 0 0]⟩ 37 (0, 0)) :: some (b_t4, .cells ⟨[.bool false, .slice none 0 0]⟩ 37 (0, 0)) :: some (b_b, .cells ⟨[.bool b_0, v_b_1]⟩ 37 (0, 0)) :: some (b_a, .cells ⟨[.bool a_0, v_a_1]⟩ 37 (0, 0)) :: L) Tryz.underlying35 Tryz.underlying35 ti3 rfl (by first | omega | (simp only [List.nil_append, List.length_cons, List.length_nil]; omega)) rfl rfl h13 h_rest.src (fun _ => .here)) ?_
  rintro v15 _ _ ⟨i16, rfl, rfl, h17⟩
  refine w_freeze h17 .here ?_
  intro H18 e19 h20
  obtain ⟨y21, hy22, he⟩ := bs he
  refine w_a rfl (o_call co67 (vs := [v15]) rfl (radomeref01_trim.calls k hy22 h20)) ?_
  rintro v25 H23 _ ⟨rfl, e24, h26⟩
  refine wA v25 rfl rfl <| w_done <| w_block <| w_loop <| w_del .here <| w_sl 2 (.pointer (some ⟨b_a, 0, none⟩)) rfl <| w_sl 3 (.pointer (some ⟨b_b, 0, none⟩)) rfl <| w_sl 4 (.pointer (some ⟨b_t4, 0, none⟩)) rfl <| w_sl 5 (.pointer (some ⟨b_t5, 0, none⟩)) rfl <| w_sl 6 (v25) rfl <| w_sl 7 (v_q) rfl <| w_sl 8 (.int .i64 i) rfl <| hh.l1 (hle.trans (e19.trans e24)) he (h_a_1.mono (e19.trans e24)) (h_b_1.mono (e19.trans e24)) h26 (h_q.mono (e19.trans e24))
 ·
  refine w_else rfl (df c9) <| w_exit rfl <| w_seq <| w_freeze h_q .here ?_
  intro H27 e28 h29
  obtain ⟨y30, hy31, he⟩ := bs he
  obtain ⟨y36, hy37, he⟩ := bs he
  refine w_none (?_)
  refine w_drawn (p := 9) (tl := [9]) [[], [(0, some 47)], [], [(2, some 49)], [(1, some 48), (3, some 50)], [], [(5, some 52)], [(4, some 51), (6, some 53)], []] [some 47, some 48, some 49, some 50, some 51, some 52, some 53, some 54, some 9] (fctF (.is (.pointer (some ⟨b_a, 0, none⟩)) :: .is (.bool a_0) :: .is (.pointer (some ⟨b_b, 0, none⟩)) :: .is (.bool b_0) :: .is (.bool (!(a_0 == b_0))) :: .is (v_q) :: .ro kI64 (y30) :: .of (radomeref01_num.out y36) (radomeref01_num.out_mono _) :: .box 37 [.bool false, .slice none 0 0] :: [])) (fun m_ => m_ 8 :: none :: some (b_t5, .cells ⟨[.bool false, .slice none 0 0]⟩ 37 (0, 0)) :: some (b_t4, .cells ⟨[.bool false, .slice none 0 0]⟩ 37 (0, 0)) :: some (b_b, .cells ⟨[.bool b_0, v_b_1]⟩ 37 (0, 0)) :: some (b_a, .cells ⟨[.bool a_0, v_a_1]⟩ 37 (0, 0)) :: L) (fun _ => none) mixed (by kernel_rfl) (by kernel_rfl) rfl (fct_mono (by kernel_rfl)) ⟨(fun H' m_ hH hm_ hu_ => dn <| s_d (m_ 0) rfl (d_fld (o' := 0) Tryz.underlying37 rfl sz4 rfl rfl rfl) (by exact rfl) rfl), (by rintro H' m_ hH hm_ hu_ _ rfl; exact dn <| s_d (m_ 1) rfl (d_loado (v := .bool a_0) ty4 rfl (.there (.there (.there (.there (.there .here))))) rfl rfl rfl rfl) (by exact rfl) rfl), (fun H' m_ hH hm_ hu_ => dn <| s_d (m_ 2) rfl (d_fld (o' := 0) Tryz.underlying37 rfl sz4 rfl rfl rfl) (by exact rfl) rfl), (by rintro H' m_ hH hm_ hu_ _ rfl; exact dn <| s_d (m_ 3) rfl (d_loado (v := .bool b_0) ty4 rfl (.there (.there (.there (.there .here)))) rfl rfl rfl rfl) (by exact rfl) rfl), (by rintro H' m_ hH hm_ hu_ _ rfl _ rfl; exact dn <| s_d (m_ 4) rfl (d_neb (a := a_0) (b := b_0) Tryz.underlying4 rfl rfl) (by exact rfl) rfl), (fun H' m_ hH hm_ hu_ => dn <| s_d (m_ 5) rfl (d_move (v := v_q) rfl) (by exact rfl) rfl), (by rintro H' m_ hH hm_ hu_ _ rfl; exact dn <| s_k (m_ 6) rfl (o_call co67 (vs := [v_q]) rfl (radomeref01_trim.calls k hy31 (h29.mono hH))) rfl (by rintro v_ H_ _ ⟨rfl, e_, h_⟩; exact ⟨rfl, e_, h_⟩)), (by rintro H' m_ hH hm_ hu_ _ rfl v34 (h35 : Ro kI64 H' v34 y30); exact dn <| s_k (m_ 7) rfl (o_call co66 (vs := [.bool (!(a_0 == b_0)), v34]) rfl (radomeref01_num.calls k hy37 h35)) rfl (by rintro v_ H_ _ ⟨rfl, e_, h_⟩; exact ⟨rfl, e_, h_⟩)), (fun H' m_ hH hm_ hu_ => dn <| s_box hm_ rfl rfl (o_alloc zr37 rfl) rfl (fun _ => .here) (by exact fun b_ => ⟨b_, rfl, rfl⟩)), trivial⟩ ?_
  intro H43 e44
  rintro _ _ rfl _ _ rfl _ _ rfl _ _ rfl _ _ rfl _ _ rfl v34 _ (h35 : Ro kI64 H43 v34 y30) _ _ ⟨v40, rfl, h41⟩ _ _ ⟨b42, rfl, rfl⟩
  refine w_a0 rfl (o_store (v := .agg ⟨[.bool y36.f_Neg, v40]⟩) sz37 rfl rfl rfl rfl (oc rfl (oc (h41.one) oz)) .here u2) ?_
  rintro _ _ _ ⟨rfl, rfl, rfl⟩
  refine wQ rfl <| wM v_rest rfl rfl ?_
  obtain ⟨y45, hy46, he⟩ := bs he
  refine w_a rfl (o_call co66 (vs := [.bool false, v_rest]) rfl (radomeref01_num.calls k hy46 (h_rest.mono (e28.trans e44)))) ?_
  rintro _ H47 _ ⟨rfl, e48, ⟨v49, rfl, h50⟩⟩
  refine w_a rfl (o_alloc zr37 rfl) ?_
  rintro _ _ _ ⟨b51, rfl, rfl, rfl⟩
  refine w_a0 rfl (o_store (v := .agg ⟨[.bool y45.f_Neg, v49]⟩) sz37 rfl rfl rfl rfl (oc rfl (oc (h50.one) oz)) .here u2) ?_
  rintro _ _ _ ⟨rfl, rfl, rfl⟩
  refine wE <| wR rfl <| w_d rfl (d_fld (o' := 0) Tryz.underlying37 rfl sz4 rfl rfl rfl) <| w_d rfl (d_loado (v := .bool a_0) ty4 rfl (.there (.there (.there (.there (.there (.there .here)))))) rfl rfl rfl rfl) <| wM (.bool a_0) rfl rfl <| w_g (g := a_0) rfl rfl rfl wn_t (fun g52 => d_move (v := v_rest) rfl) <| w_g (g := a_0) rfl rfl rfl wn_t (fun g53 => d_len Tryz.underlying35 (cvt g53) (h_rest.mono ((e28.trans e44).trans e48)).src) <| w_g (g := a_0) rfl rfl rfl wn_t (fun g54 => d_gtr (cvt g54) rfl) <| w_d rfl (d_and' (b := a_0) (p := (decide (0 < (rest.length : Int)))) rfl rfl rfl) <| w_done ?_
  rcases its he with ⟨c55, he⟩ | ⟨c55, he⟩
  ·
   refine w_then rfl c55 <| wR rfl <| w_d rfl (d_fld (o' := 1) Tryz.underlying37 rfl sz35 rfl rfl rfl) <| w_d rfl (d_loado (v := v_b_1) ty35 rfl (.there (.there (.there (.there (.there .here))))) rfl rfl rfl rfl) <| wM v_rest rfl rfl ?_
   obtain ⟨y56, hy57, he⟩ := bs he
   refine w_a rfl (o_call co70 (vs := [v_b_1, v_rest]) rfl (radomeref01_minus.calls k hy57 ((h_b_1.mono ((e28.trans e44).trans e48)).src) ((h_rest.mono ((e28.trans e44).trans e48)).src))) ?_
   rintro v60 H58 _ ⟨rfl, e59, h61⟩
   obtain ⟨y62, hy63, he⟩ := bs he
   refine w_a rfl (o_call co66 (vs := [.bool false, v60]) rfl (radomeref01_num.calls k hy63 h61)) ?_
   rintro _ H64 _ ⟨rfl, e65, ⟨v66, rfl, h67⟩⟩
   refine w_a0 rfl (o_store (v := .agg ⟨[.bool y62.f_Neg, v66]⟩) sz37 rfl rfl rfl rfl (oc rfl (oc (h67.one) oz)) .here u2) ?_
   rintro _ _ _ ⟨rfl, rfl, rfl⟩
   refine wQ rfl <| w_d rfl (d_fld (o' := 0) Tryz.underlying37 rfl sz4 rfl rfl rfl) <| w_d rfl (d_loado (v := .bool b_0) ty4 rfl (.there (.there (.there (.there (.there .here))))) rfl rfl rfl rfl) <| w_done ?_
   rcases its he with ⟨c68, he⟩ | ⟨c68, he⟩
   ·
    refine w_then rfl c68 ?_
    obtain ⟨y69, hy70, he⟩ := bs he
    refine w_drawn (p := 2) (tl := [2, 3]) [[], []] [some 71, some 72] (fctF (.is (.agg ⟨[.bool y36.f_Neg, v40]⟩) :: .of (radomeref01_Of.out y69) (radomeref01_Of.out_mono _) :: [])) (fun m_ => some (b51, .cells ⟨[.bool y62.f_Neg, v66]⟩ 37 (0, 0)) :: some (b42, .cells ⟨[.bool y36.f_Neg, v40]⟩ 37 (0, 0)) :: none :: some (b_t5, .cells ⟨[.bool false, .slice none 0 0]⟩ 37 (0, 0)) :: some (b_t4, .cells ⟨[.bool false, .slice none 0 0]⟩ 37 (0, 0)) :: some (b_b, .cells ⟨[.bool b_0, v_b_1]⟩ 37 (0, 0)) :: some (b_a, .cells ⟨[.bool a_0, v_a_1]⟩ 37 (0, 0)) :: L) (fun _ => none) mixed (by kernel_rfl) (by kernel_rfl) rfl (fct_mono (by kernel_rfl)) ⟨(fun H' m_ hH hm_ hu_ => dn <| s_d (m_ 0) rfl (d_loado (v := .agg ⟨[.bool y36.f_Neg, v40]⟩) ty37 rfl (.there .here) rfl rfl rfl rfl) (by exact rfl) rfl), (fun H' m_ hH hm_ hu_ => dn <| s_k (m_ 1) rfl (o_call co16 (vs := [.int .i64 1]) rfl (radomeref01_Of.calls k hy70)) rfl (by rintro v_ H_ _ ⟨rfl, e_, h_⟩; exact ⟨rfl, e_, h_⟩)), trivial⟩ ?_
    intro H75 e76
    rintro _ _ rfl _ _ ⟨v73, rfl, h74⟩
    obtain ⟨y77, hy78, he⟩ := bs he
    refine w_a rfl (o_call co17 (vs := [.agg ⟨[.bool y36.f_Neg, v40]⟩, .agg ⟨[.bool y69.f_Neg, v73]⟩]) rfl (radomeref01_Add.calls k (a := y36) (b := y69) hy78 (h41.mono (((e48.trans e59).trans e65).trans e76)) h74)) ?_
    rintro _ H79 _ ⟨rfl, e80, ⟨v81, rfl, h82⟩⟩
    refine w_a0 rfl (o_store (v := .agg ⟨[.bool y77.f_Neg, v81]⟩) sz37 rfl rfl rfl rfl (oc rfl (oc (h82.one) oz)) (.there .here) u2) ?_
    rintro _ _ _ ⟨rfl, rfl, rfl⟩
    refine wE <| w_drawn (p := 3) (tl := [3]) [[], [], [(0, some 77)]] [some 77, some 78, none] (fctF (.is (.agg ⟨[.bool y77.f_Neg, v81]⟩) :: .is (.agg ⟨[.bool y62.f_Neg, v66]⟩) :: .itm (fun H itq_ => itq_ = some (b_t4, .cells ⟨[.bool y77.f_Neg, v81]⟩ 37 (0, 0))) (by rintro _ _ _ hle rfl; exact rfl) :: [])) (fun m_ => some (b51, .cells ⟨[.bool y62.f_Neg, v66]⟩ 37 (0, 0)) :: some (b42, .cells ⟨[.bool y77.f_Neg, v81]⟩ 37 (0, 0)) :: none :: some (b_t5, .cells ⟨[.bool false, .slice none 0 0]⟩ 37 (0, 0)) :: m_ 2 :: some (b_b, .cells ⟨[.bool b_0, v_b_1]⟩ 37 (0, 0)) :: some (b_a, .cells ⟨[.bool a_0, v_a_1]⟩ 37 (0, 0)) :: L) (fun i_ => if i_ = 2 then some (b_t4, .cells ⟨[.bool false, .slice none 0 0]⟩ 37 (0, 0)) else none) mixed (by kernel_rfl) (by kernel_rfl) rfl (fct_mono (by kernel_rfl)) ⟨(fun H' m_ hH hm_ hu_ => dn <| s_d (m_ 0) rfl (d_loado (v := .agg ⟨[.bool y77.f_Neg, v81]⟩) ty37 rfl (.there .here) rfl rfl rfl rfl) (by exact rfl) rfl), (fun H' m_ hH hm_ hu_ => dn <| s_d (m_ 1) rfl (d_loado (v := .agg ⟨[.bool y62.f_Neg, v66]⟩) ty37 rfl .here rfl rfl rfl rfl) (by exact rfl) rfl), (by rintro H' m_ hH hm_ hu_ _ rfl; exact dn <| s_store (some (b_t4, .cells ⟨[.bool y77.f_Neg, v81]⟩ 37 (0, 0))) hm_ rfl (o_store (v := .agg ⟨[.bool y77.f_Neg, v81]⟩) sz37 rfl rfl rfl rfl (oc rfl (oc (h82.one) oz)) (.there (.there (.there (.there .here)))) u2) rfl (by exact ⟨rfl, rfl⟩)), trivial⟩ ?_
    intro H83 e84
    rintro _ _ rfl _ _ rfl _ _ ⟨rfl, rfl⟩
    refine w_it (L' := some (b51, .cells ⟨[.bool y62.f_Neg, v66]⟩ 37 (0, 0)) :: some (b42, .cells ⟨[.bool y77.f_Neg, v81]⟩ 37 (0, 0)) :: none :: some (b_t5, .cells ⟨[.bool false, .slice none 0 0]⟩ 37 (0, 0)) :: some (b_t4, .cells ⟨[.bool y77.f_Neg, v81]⟩ 37 (0, 0)) :: some (b_b, .cells ⟨[.bool b_0, v_b_1]⟩ 37 (0, 0)) :: some (b_a, .cells ⟨[.bool a_0, v_a_1]⟩ 37 (0, 0)) :: L) rfl <| w_a0 rfl (o_store (v := .agg ⟨[.bool y62.f_Neg, v66]⟩) sz37 rfl rfl rfl rfl (oc rfl (oc (h67.one) oz)) (.there (.there (.there .here))) u2) ?_
    rintro _ _ _ ⟨rfl, rfl, rfl⟩
    refine w_done ?_
    obtain rfl := sj he
    refine w_return fn_65 rs_65 (.box (v := .agg ⟨[.bool y77.f_Neg, v81]⟩) rfl ty37 rfl rfl (.there (.there (.there (.there .here)))) rfl (.box (v := .agg ⟨[.bool y62.f_Neg, v66]⟩) rfl ty37 rfl rfl (.there (.there (.there .here))) rfl .nil)) <| ⟨⟨[_, _, _, _, _, _, _], rfl⟩, hle.trans (((((((e28.trans e44).trans e48).trans e59).trans e65).trans e76).trans e80).trans e84), ⟨v81, v66, rfl, (h82.mono e84), (h67.mono ((e76.trans e80).trans e84))⟩⟩
   ·
    refine w_else rfl (Bool.eq_false_iff.2 c68) ?_
    obtain ⟨y85, hy86, he⟩ := bs he
    refine w_drawn (p := 2) (tl := [2, 3]) [[], []] [some 74, some 75] (fctF (.is (.agg ⟨[.bool y36.f_Neg, v40]⟩) :: .of (radomeref01_Of.out y85) (radomeref01_Of.out_mono _) :: [])) (fun m_ => some (b51, .cells ⟨[.bool y62.f_Neg, v66]⟩ 37 (0, 0)) :: some (b42, .cells ⟨[.bool y36.f_Neg, v40]⟩ 37 (0, 0)) :: none :: some (b_t5, .cells ⟨[.bool false, .slice none 0 0]⟩ 37 (0, 0)) :: some (b_t4, .cells ⟨[.bool false, .slice none 0 0]⟩ 37 (0, 0)) :: some (b_b, .cells ⟨[.bool b_0, v_b_1]⟩ 37 (0, 0)) :: some (b_a, .cells ⟨[.bool a_0, v_a_1]⟩ 37 (0, 0)) :: L) (fun _ => none) mixed (by kernel_rfl) (by kernel_rfl) rfl (fct_mono (by kernel_rfl)) ⟨(fun H' m_ hH hm_ hu_ => dn <| s_d (m_ 0) rfl (d_loado (v := .agg ⟨[.bool y36.f_Neg, v40]⟩) ty37 rfl (.there .here) rfl rfl rfl rfl) (by exact rfl) rfl), (fun H' m_ hH hm_ hu_ => dn <| s_k (m_ 1) rfl (o_call co16 (vs := [.int .i64 1]) rfl (radomeref01_Of.calls k hy86)) rfl (by rintro v_ H_ _ ⟨rfl, e_, h_⟩; exact ⟨rfl, e_, h_⟩)), trivial⟩ ?_
    intro H91 e92
    rintro _ _ rfl _ _ ⟨v89, rfl, h90⟩
    obtain ⟨y93, hy94, he⟩ := bs he
    refine w_a rfl (o_call co14 (vs := [.agg ⟨[.bool y36.f_Neg, v40]⟩, .agg ⟨[.bool y85.f_Neg, v89]⟩]) rfl (radomeref01_Sub.calls k (a := y36) (b := y85) hy94 (h41.mono (((e48.trans e59).trans e65).trans e92)) h90)) ?_
    rintro _ H95 _ ⟨rfl, e96, ⟨v97, rfl, h98⟩⟩
    refine w_a0 rfl (o_store (v := .agg ⟨[.bool y93.f_Neg, v97]⟩) sz37 rfl rfl rfl rfl (oc rfl (oc (h98.one) oz)) (.there .here) u2) ?_
    rintro _ _ _ ⟨rfl, rfl, rfl⟩
    refine wE <| w_drawn (p := 3) (tl := [3]) [[], [], [(0, some 77)]] [some 77, some 78, none] (fctF (.is (.agg ⟨[.bool y93.f_Neg, v97]⟩) :: .is (.agg ⟨[.bool y62.f_Neg, v66]⟩) :: .itm (fun H itq_ => itq_ = some (b_t4, .cells ⟨[.bool y93.f_Neg, v97]⟩ 37 (0, 0))) (by rintro _ _ _ hle rfl; exact rfl) :: [])) (fun m_ => some (b51, .cells ⟨[.bool y62.f_Neg, v66]⟩ 37 (0, 0)) :: some (b42, .cells ⟨[.bool y93.f_Neg, v97]⟩ 37 (0, 0)) :: none :: some (b_t5, .cells ⟨[.bool false, .slice none 0 0]⟩ 37 (0, 0)) :: m_ 2 :: some (b_b, .cells ⟨[.bool b_0, v_b_1]⟩ 37 (0, 0)) :: some (b_a, .cells ⟨[.bool a_0, v_a_1]⟩ 37 (0, 0)) :: L) (fun i_ => if i_ = 2 then some (b_t4, .cells ⟨[.bool false, .slice none 0 0]⟩ 37 (0, 0)) else none) mixed (by kernel_rfl) (by kernel_rfl) rfl (fct_mono (by kernel_rfl)) ⟨(fun H' m_ hH hm_ hu_ => dn <| s_d (m_ 0) rfl (d_loado (v := .agg ⟨[.bool y93.f_Neg, v97]⟩) ty37 rfl (.there .here) rfl rfl rfl rfl) (by exact rfl) rfl), (fun H' m_ hH hm_ hu_ => dn <| s_d (m_ 1) rfl (d_loado (v := .agg ⟨[.bool y62.f_Neg, v66]⟩) ty37 rfl .here rfl rfl rfl rfl) (by exact rfl) rfl), (by rintro H' m_ hH hm_ hu_ _ rfl; exact dn <| s_store (some (b_t4, .cells ⟨[.bool y93.f_Neg, v97]⟩ 37 (0, 0))) hm_ rfl (o_store (v := .agg ⟨[.bool y93.f_Neg, v97]⟩) sz37 rfl rfl rfl rfl (oc rfl (oc (h98.one) oz)) (.there (.there (.there (.there .here)))) u2) rfl (by exact ⟨rfl, rfl⟩)), trivial⟩ ?_
    intro H99 e100
    rintro _ _ rfl _ _ rfl _ _ ⟨rfl, rfl⟩
    refine w_it (L' := some (b51, .cells ⟨[.bool y62.f_Neg, v66]⟩ 37 (0, 0)) :: some (b42, .cells ⟨[.bool y93.f_Neg, v97]⟩ 37 (0, 0)) :: none :: some (b_t5, .cells ⟨[.bool false, .slice none 0 0]⟩ 37 (0, 0)) :: some (b_t4, .cells ⟨[.bool y93.f_Neg, v97]⟩ 37 (0, 0)) :: some (b_b, .cells ⟨[.bool b_0, v_b_1]⟩ 37 (0, 0)) :: some (b_a, .cells ⟨[.bool a_0, v_a_1]⟩ 37 (0, 0)) :: L) rfl <| w_a0 rfl (o_store (v := .agg ⟨[.bool y62.f_Neg, v66]⟩) sz37 rfl rfl rfl rfl (oc rfl (oc (h67.one) oz)) (.there (.there (.there .here))) u2) ?_
    rintro _ _ _ ⟨rfl, rfl, rfl⟩
    refine w_done ?_
    obtain rfl := sj he
    refine w_return fn_65 rs_65 (.box (v := .agg ⟨[.bool y93.f_Neg, v97]⟩) rfl ty37 rfl rfl (.there (.there (.there (.there .here)))) rfl (.box (v := .agg ⟨[.bool y62.f_Neg, v66]⟩) rfl ty37 rfl rfl (.there (.there (.there .here))) rfl .nil)) <| ⟨⟨[_, _, _, _, _, _, _], rfl⟩, hle.trans (((((((e28.trans e44).trans e48).trans e59).trans e65).trans e92).trans e96).trans e100), ⟨v97, v66, rfl, (h98.mono e100), (h67.mono ((e92.trans e96).trans e100))⟩⟩
  ·
   refine w_else rfl (Bool.eq_false_iff.2 c55) <| w_skip <| w_seq <| w_drawn (p := 3) (tl := [3]) [[], [], [(0, some 77)]] [some 77, some 78, none] (fctF (.is (.agg ⟨[.bool y36.f_Neg, v40]⟩) :: .is (.agg ⟨[.bool y45.f_Neg, v49]⟩) :: .itm (fun H itq_ => itq_ = some (b_t4, .cells ⟨[.bool y36.f_Neg, v40]⟩ 37 (0, 0))) (by rintro _ _ _ hle rfl; exact rfl) :: [])) (fun m_ => some (b51, .cells ⟨[.bool y45.f_Neg, v49]⟩ 37 (0, 0)) :: some (b42, .cells ⟨[.bool y36.f_Neg, v40]⟩ 37 (0, 0)) :: none :: some (b_t5, .cells ⟨[.bool false, .slice none 0 0]⟩ 37 (0, 0)) :: m_ 2 :: some (b_b, .cells ⟨[.bool b_0, v_b_1]⟩ 37 (0, 0)) :: some (b_a, .cells ⟨[.bool a_0, v_a_1]⟩ 37 (0, 0)) :: L) (fun i_ => if i_ = 2 then some (b_t4, .cells ⟨[.bool false, .slice none 0 0]⟩ 37 (0, 0)) else none) mixed (by kernel_rfl) (by kernel_rfl) rfl (fct_mono (by kernel_rfl)) ⟨(fun H' m_ hH hm_ hu_ => dn <| s_d (m_ 0) rfl (d_loado (v := .agg ⟨[.bool y36.f_Neg, v40]⟩) ty37 rfl (.there .here) rfl rfl rfl rfl) (by exact rfl) rfl), (fun H' m_ hH hm_ hu_ => dn <| s_d (m_ 1) rfl (d_loado (v := .agg ⟨[.bool y45.f_Neg, v49]⟩) ty37 rfl .here rfl rfl rfl rfl) (by exact rfl) rfl), (by rintro H' m_ hH hm_ hu_ _ rfl; exact dn <| s_store (some (b_t4, .cells ⟨[.bool y36.f_Neg, v40]⟩ 37 (0, 0))) hm_ rfl (o_store (v := .agg ⟨[.bool y36.f_Neg, v40]⟩) sz37 rfl rfl rfl rfl (oc rfl (oc (h41.one) oz)) (.there (.there (.there (.there .here)))) u2) rfl (by exact ⟨rfl, rfl⟩)), trivial⟩ ?_
   intro H101 e102
   rintro _ _ rfl _ _ rfl _ _ ⟨rfl, rfl⟩
   refine w_it (L' := some (b51, .cells ⟨[.bool y45.f_Neg, v49]⟩ 37 (0, 0)) :: some (b42, .cells ⟨[.bool y36.f_Neg, v40]⟩ 37 (0, 0)) :: none :: some (b_t5, .cells ⟨[.bool false, .slice none 0 0]⟩ 37 (0, 0)) :: some (b_t4, .cells ⟨[.bool y36.f_Neg, v40]⟩ 37 (0, 0)) :: some (b_b, .cells ⟨[.bool b_0, v_b_1]⟩ 37 (0, 0)) :: some (b_a, .cells ⟨[.bool a_0, v_a_1]⟩ 37 (0, 0)) :: L) rfl <| w_a0 rfl (o_store (v := .agg ⟨[.bool y45.f_Neg, v49]⟩) sz37 rfl rfl rfl rfl (oc rfl (oc (h50.one) oz)) (.there (.there (.there .here))) u2) ?_
   rintro _ _ _ ⟨rfl, rfl, rfl⟩
   refine w_done ?_
   obtain rfl := sj he
   refine w_return fn_65 rs_65 (.box (v := .agg ⟨[.bool y36.f_Neg, v40]⟩) rfl ty37 rfl rfl (.there (.there (.there (.there .here)))) rfl (.box (v := .agg ⟨[.bool y45.f_Neg, v49]⟩) rfl ty37 rfl rfl (.there (.there (.there .here))) rfl .nil)) <| ⟨⟨[_, _, _, _, _, _, _], rfl⟩, hle.trans (((e28.trans e44).trans e48).trans e102), ⟨v40, v49, rfl, (h41.mono (e48.trans e102)), (h50.mono e102)⟩⟩
theorem radomeref01_Div.b1_ok {k : Nat} {h : radomeref01_Div.Hs} (hh : radomeref01_Div.OK h) {H0 H : Hp} {L : Items} {r : radomeref01_Num × radomeref01_Num} {jk_ : Nat → Value} {a_0 : Bool} {a_1 : List Int} {b_0 : Bool} {b_1 : List Int} {rest : List Int} {q : List Int} {i : Int} {v_a_1 : Value} {v_b_1 : Value} {v_rest : Value} {v_q : Value} {i_q : Item'} {b_a : Nat} {b_b : Nat} {b_t4 : Nat} {b_t5 : Nat} (hle : H0.le H) (he : radomeref01_Div.b1 k h a_0 a_1 b_0 b_1 rest q i = some r) (h_a_1 : Ro kI64 H v_a_1 a_1) (h_b_1 : Ro kI64 H v_b_1 b_1) (h_rest : Ro kI64 H v_rest rest) (h_q : Sl kI64 H 3 i_q v_q q) : Wp Tryz.prog 65 79 radomeref01_Div.Kl1 (upd (upd (upd (upd (upd (upd (upd jk_ 2 (.pointer (some ⟨b_a, 0, none⟩))) 3 (.pointer (some ⟨b_b, 0, none⟩))) 4 (.pointer (some ⟨b_t4, 0, none⟩))) 5 (.pointer (some ⟨b_t5, 0, none⟩))) 6 (v_rest)) 7 (v_q)) 8 (.int .i64 i)) H (i_q :: some (b_t5, .cells ⟨[.bool false, .slice none 0 0]⟩ 37 (0, 0)) :: some (b_t4, .cells ⟨[.bool false, .slice none 0 0]⟩ 37 (0, 0)) :: some (b_b, .cells ⟨[.bool b_0, v_b_1]⟩ 37 (0, 0)) :: some (b_a, .cells ⟨[.bool a_0, v_a_1]⟩ 37 (0, 0)) :: L) (radomeref01_Div.R H0 L r) := by
 unfold radomeref01_Div.b1 at he
 unfold radomeref01_Div.Kl1
 refine w_seq <| wR rfl <| wM v_rest rfl rfl <| w_d rfl (d_fld (o' := 1) Tryz.underlying37 rfl sz35 rfl rfl rfl) <| wL v_b_1 ty35 rfl rfl (.there (.there (.there .here))) rfl rfl ?_
 obtain ⟨y103, hy104, he⟩ := bs he
 refine w_d rfl (call_d (o_call co69 (vs := [v_rest, v_b_1]) rfl (radomeref01_Less.calls k hy104 h_rest.src h_b_1.src))) <| w_d rfl (d_not (b := y103) rfl) <| w_done ?_
 rcases its he with ⟨c107, he⟩ | ⟨c107, he⟩
 ·
  refine w_then rfl c107 <| w_skip <| w_block <| wR rfl <| wM v_rest rfl rfl <| w_d rfl (d_fld (o' := 1) Tryz.underlying37 rfl sz35 rfl rfl rfl) <| wL v_b_1 ty35 rfl rfl (.there (.there (.there .here))) rfl rfl ?_
  obtain ⟨y108, hy109, he⟩ := bs he
  refine w_a rfl (o_call co70 (vs := [v_rest, v_b_1]) rfl (radomeref01_minus.calls k hy109 h_rest.src h_b_1.src)) ?_
  rintro v112 H110 _ ⟨rfl, e111, h113⟩
  refine wA v112 rfl rfl <| w_done <| w_region rfl <| wM v_q rfl rfl <| wM (.int .i64 i) rfl rfl ?_
  obtain ⟨c114, he⟩ := rq he
  refine w_d rfl (d_indexS (sz := 1) Tryz.underlying35 sz3 rfl (h_q.mono e111).shp rfl c114) <| w_d rfl (d_ldint ty3 rfl ((h_q.mono e111).src .here) c114) <| w_d rfl (d_add (c := w64 ((rd q i) + 1)) rfl rfl rfl) ?_
  obtain ⟨c115, he⟩ := rq he
  refine w_d rfl (d_indexS (sz := 1) Tryz.underlying35 sz3 rfl (h_q.mono e111).shp rfl c115) <| w_a0 rfl (o_storeEl (kd := kI64) (v := .int .i64 (w64 ((rd q i) + 1))) (F := fun z_ => z_ :: some (b_t5, .cells ⟨[.bool false, .slice none 0 0]⟩ 37 (0, 0)) :: some (b_t4, .cells ⟨[.bool false, .slice none 0 0]⟩ 37 (0, 0)) :: some (b_b, .cells ⟨[.bool b_0, v_b_1]⟩ 37 (0, 0)) :: some (b_a, .cells ⟨[.bool a_0, v_a_1]⟩ 37 (0, 0)) :: L) sz3 rfl rfl rfl rfl (h_q.mono e111) c115 (fun _ => .here)) ?_
  rintro _ _ _ ⟨i116, rfl, rfl, rfl, h117⟩
  refine w_done <| w_inBlock <| w_inLoop <| w_sl 2 (.pointer (some ⟨b_a, 0, none⟩)) rfl <| w_sl 3 (.pointer (some ⟨b_b, 0, none⟩)) rfl <| w_sl 4 (.pointer (some ⟨b_t4, 0, none⟩)) rfl <| w_sl 5 (.pointer (some ⟨b_t5, 0, none⟩)) rfl <| w_sl 6 (v112) rfl <| w_sl 7 (v_q) rfl <| w_sl 8 (.int .i64 i) rfl <| hh.l1 (hle.trans e111) he (h_a_1.mono e111) (h_b_1.mono e111) h113 h117
 ·
  refine w_else rfl (Bool.eq_false_iff.2 c107) <| w_exit rfl <| w_inBlock <| w_region rfl <| wM (.int .i64 i) rfl rfl <| w_d rfl (d_sub (c := w64 (i - 1)) rfl rfl rfl) <| wA (.int .i64 (w64 (i - 1))) rfl rfl <| w_done <| w_inLoop <| w_sl 2 (.pointer (some ⟨b_a, 0, none⟩)) rfl <| w_sl 3 (.pointer (some ⟨b_b, 0, none⟩)) rfl <| w_sl 4 (.pointer (some ⟨b_t4, 0, none⟩)) rfl ?_
  refine w_sl 5 (.pointer (some ⟨b_t5, 0, none⟩)) rfl <| w_sl 6 (v_rest) rfl <| w_sl 7 (v_q) rfl <| w_sl 8 (.int .i64 (w64 (i - 1))) rfl <| hh.l0 hle he h_a_1 h_b_1 h_rest h_q
theorem radomeref01_Div.ok : ∀ k, radomeref01_Div.OK (radomeref01_Div.hs k)
 | 0 => ⟨(by intros; exact nomatch (show none = some _ from by assumption)), (by intros; exact nomatch (show none = some _ from by assumption))⟩
 | k + 1 => ⟨radomeref01_Div.b0_ok (k := k) (radomeref01_Div.ok k), radomeref01_Div.b1_ok (k := k) (radomeref01_Div.ok k)⟩
theorem radomeref01_Div.calls (k : Nat) {H : Hp} {L : Items} {a : radomeref01_Num} {b : radomeref01_Num} {v0_a : Value} {v1_b : Value} {r : radomeref01_Num × radomeref01_Num} (he : radomeref01_Div.f k a b = some r) (h0_a : Ro kI64 H v0_a a.f_D) (h1_b : Ro kI64 H v1_b b.f_D) : Ct Tryz.prog 65 ⟨[.agg ⟨[.bool a.f_Neg, v0_a]⟩, .agg ⟨[.bool b.f_Neg, v1_b]⟩]⟩ H L (cR H L (radomeref01_Div.out r)) := by
 refine ct_out (O := radomeref01_Div.out r) ?_
 have hle : H.le H := .refl _
 have hh := radomeref01_Div.ok k
 unfold radomeref01_Div.f at he
 refine ct_enter (args := [.agg ⟨[.bool a.f_Neg, v0_a]⟩, .agg ⟨[.bool b.f_Neg, v1_b]⟩]) fn_65 rfl nt_65 rfl <| wR rfl <| w_a rfl (o_box (v := .agg ⟨[.bool a.f_Neg, v0_a]⟩) rfl rfl) ?_
 rintro _ _ _ ⟨b1, rfl, rfl, rfl⟩
 refine w_a rfl (o_box (v := .agg ⟨[.bool b.f_Neg, v1_b]⟩) rfl rfl) ?_
 rintro _ _ _ ⟨b2, rfl, rfl, rfl⟩
 refine w_a rfl (o_alloc zr37 rfl) ?_
 rintro _ _ _ ⟨b3, rfl, rfl, rfl⟩
 refine w_a rfl (o_alloc zr37 rfl) ?_
 rintro _ _ _ ⟨b4, rfl, rfl, rfl⟩
 refine wQ rfl <| wA (.slice none 0 0) rfl rfl <| wQ rfl <| w_d rfl (d_fld (o' := 1) Tryz.underlying37 rfl sz35 rfl rfl rfl) <| wL v0_a ty35 rfl rfl (.there (.there (.there .here))) rfl rfl <| w_d rfl (d_len Tryz.underlying35 rfl h0_a.src) ?_
 obtain ⟨c5, he⟩ := rq he
 refine w_a rfl (o_make' (kd := kI64) (z0 := 0) Tryz.underlying35 ti3 (zp3 _) rfl rfl (by omega) (by omega) (by omega)) ?_
 rintro v6 _ _ ⟨i7, rfl, rfl, h8⟩
 refine wA v6 rfl rfl <| wE <| wR rfl <| w_d rfl (d_fld (o' := 1) Tryz.underlying37 rfl sz35 rfl rfl rfl) <| wL v0_a ty35 rfl rfl (.there (.there (.there (.there .here)))) rfl rfl <| w_d rfl (d_len Tryz.underlying35 rfl h0_a.src) <| w_d rfl (d_sub (c := w64 ((a.f_D.length : Int) - 1)) rfl rfl rfl) <| wA (.int .i64 (w64 ((a.f_D.length : Int) - 1))) rfl rfl <| w_done <| w_block ?_
 refine w_loop <| w_sl 2 (.pointer (some ⟨b1, 0, none⟩)) rfl <| w_sl 3 (.pointer (some ⟨b2, 0, none⟩)) rfl <| w_sl 4 (.pointer (some ⟨b3, 0, none⟩)) rfl <| w_sl 5 (.pointer (some ⟨b4, 0, none⟩)) rfl <| w_sl 6 (.slice none 0 0) rfl <| w_sl 7 (v6) rfl <| w_sl 8 (.int .i64 (w64 ((a.f_D.length : Int) - 1))) rfl <| hh.l0 hle he h0_a h1_b (ro_nil _ _) h8
noncomputable def radomeref02_Of.C : Code := (Tryz.f13.body).getD .skip
def radomeref02_Of.out (r : radomeref02_Ratio) (H : Hp) (v : Value) : Prop := ∃ v0, ∃ v1, v = .agg ⟨[.bool r.f_N.f_Neg, v0, .bool r.f_D.f_Neg, v1]⟩ ∧ Ro kI64 H v0 r.f_N.f_D ∧ Ro kI64 H v1 r.f_D.f_D
theorem radomeref02_Of.out_mono (r : radomeref02_Ratio) {H H' : Hp} {v : Value} (hle : H.le H') (h : radomeref02_Of.out r H v) : radomeref02_Of.out r H' v := by
 obtain ⟨v0, v1, rfl, h0, h1⟩ := h; exact ⟨v0, v1, rfl, h0.mono hle, h1.mono hle⟩
abbrev radomeref02_Of.R (H0 : Hp) (L : Items) (r : radomeref02_Ratio) := fR H0 L (radomeref02_Of.out r)
structure radomeref02_Of.Hs where
 l0 : Bool → (List Int) → Bool → (List Int) → Bool → (List Int) → Bool → (List Int) → Option radomeref02_Ratio
noncomputable def radomeref02_Of.j1 (k : Nat) (h : radomeref02_Of.Hs)  (n_0 : Bool) (n_1 : List Int) (d_0 : Bool) (d_1 : List Int) : Option radomeref02_Ratio := (radomeref02_size.f k (⟨n_0, n_1⟩ : radomeref01_Num)).bind fun y23 => h.l0 n_0 n_1 d_0 d_1 y23.f_Neg y23.f_D d_0 d_1
noncomputable def radomeref02_Of.b0 (k : Nat) (h : radomeref02_Of.Hs)  (n_0 : Bool) (n_1 : List Int) (d_0 : Bool) (d_1 : List Int) (a_0 : Bool) (a_1 : List Int) (b_0 : Bool) (b_1 : List Int) : Option radomeref02_Ratio := (radomeref01_Sign.f k (⟨b_0, b_1⟩ : radomeref01_Num)).bind fun y37 => if y37 = 0 then ((radomeref01_Div.f k (⟨n_0, n_1⟩ : radomeref01_Num) (⟨a_0, a_1⟩ : radomeref01_Num)).bind fun y42 => (radomeref01_Div.f k (⟨d_0, d_1⟩ : radomeref01_Num) (⟨a_0, a_1⟩ : radomeref01_Num)).bind fun y52 => some ((⟨y42.1, y52.1⟩ : radomeref02_Ratio))) else ((radomeref01_Div.f k (⟨a_0, a_1⟩ : radomeref01_Num) (⟨b_0, b_1⟩ : radomeref01_Num)).bind fun y62 => h.l0 n_0 n_1 d_0 d_1 b_0 b_1 y62.2.f_Neg y62.2.f_D)
noncomputable def radomeref02_Of.hs : Nat → radomeref02_Of.Hs
 | 0 => ⟨fun _ _ _ _ _ _ _ _ => none⟩
 | k + 1 => ⟨fun x0 x1 x2 x3 x4 x5 x6 x7 => radomeref02_Of.b0 k (radomeref02_Of.hs k) x0 x1 x2 x3 x4 x5 x6 x7⟩
noncomputable def radomeref02_Of.f (k : Nat) (n : radomeref01_Num) (d : radomeref01_Num) : Option radomeref02_Ratio := (fun h : radomeref02_Of.Hs => (radomeref01_Sign.f k d).bind fun y4 => if y4 < 0 then ((radomeref01_Neg.f k n).bind fun y9 => (radomeref01_Neg.f k d).bind fun y17 => radomeref02_Of.j1 k h y9.f_Neg y9.f_D y17.f_Neg y17.f_D) else (radomeref02_Of.j1 k h n.f_Neg n.f_D d.f_Neg d.f_D)) (radomeref02_Of.hs k)
noncomputable def radomeref02_Of.Kj1 : List Item := .code (seqR (seqR radomeref02_Of.C)) :: []
noncomputable def radomeref02_Of.Kl0 : List Item := .code (lopB (blkB (seqL (seqR (seqR (seqR radomeref02_Of.C)))))) :: .inLoop (lopB (blkB (seqL (seqR (seqR (seqR radomeref02_Of.C)))))) :: .inBlock 0 :: .code (seqR (seqR (seqR (seqR radomeref02_Of.C)))) :: []
structure radomeref02_Of.OK (h : radomeref02_Of.Hs) : Prop where
 l0 : ∀ {H0 H : Hp} {L : Items} {r : radomeref02_Ratio} {jk_ : Nat → Value} {n_0 : Bool} {n_1 : List Int} {d_0 : Bool} {d_1 : List Int} {a_0 : Bool} {a_1 : List Int} {b_0 : Bool} {b_1 : List Int} {v_n_1 : Value} {v_d_1 : Value} {v_a_1 : Value} {v_b_1 : Value} {b_n : Nat} {b_d : Nat} {b_t4 : Nat} {b_a : Nat} {b_b : Nat} (_ : H0.le H) (_he : h.l0 n_0 n_1 d_0 d_1 a_0 a_1 b_0 b_1 = some r) (_h_n_1 : Ro kI64 H v_n_1 n_1) (_h_d_1 : Ro kI64 H v_d_1 d_1) (_h_a_1 : Ro kI64 H v_a_1 a_1) (_h_b_1 : Ro kI64 H v_b_1 b_1), Wp Tryz.prog 13 49 radomeref02_Of.Kl0 (upd (upd (upd (upd (upd jk_ 2 (.pointer (some ⟨b_n, 0, none⟩))) 3 (.pointer (some ⟨b_d, 0, none⟩))) 4 (.pointer (some ⟨b_t4, 0, none⟩))) 5 (.pointer (some ⟨b_a, 0, none⟩))) 6 (.pointer (some ⟨b_b, 0, none⟩))) H (some (b_a, .cells ⟨[.bool a_0, v_a_1]⟩ 37 (0, 0)) :: some (b_b, .cells ⟨[.bool b_0, v_b_1]⟩ 37 (0, 0)) :: some (b_t4, .cells ⟨[.bool false, .slice none 0 0, .bool false, .slice none 0 0]⟩ 40 (0, 0)) :: some (b_d, .cells ⟨[.bool d_0, v_d_1]⟩ 37 (0, 0)) :: some (b_n, .cells ⟨[.bool n_0, v_n_1]⟩ 37 (0, 0)) :: L) (radomeref02_Of.R H0 L r)
theorem radomeref02_Of.j1_ok {k : Nat} {h : radomeref02_Of.Hs} (hh : radomeref02_Of.OK h) {H0 H : Hp} {L : Items} {r : radomeref02_Ratio} {jk_ : Nat → Value} {n_0 : Bool} {n_1 : List Int} {d_0 : Bool} {d_1 : List Int} {v_n_1 : Value} {v_d_1 : Value} {b_n : Nat} {b_d : Nat} {b_t4 : Nat} (hle : H0.le H) (he : radomeref02_Of.j1 k h n_0 n_1 d_0 d_1 = some r) (h_n_1 : Ro kI64 H v_n_1 n_1) (h_d_1 : Ro kI64 H v_d_1 d_1) : Wp Tryz.prog 13 49 radomeref02_Of.Kj1 (upd (upd (upd jk_ 2 (.pointer (some ⟨b_n, 0, none⟩))) 3 (.pointer (some ⟨b_d, 0, none⟩))) 4 (.pointer (some ⟨b_t4, 0, none⟩))) H (some (b_t4, .cells ⟨[.bool false, .slice none 0 0, .bool false, .slice none 0 0]⟩ 40 (0, 0)) :: some (b_d, .cells ⟨[.bool d_0, v_d_1]⟩ 37 (0, 0)) :: some (b_n, .cells ⟨[.bool n_0, v_n_1]⟩ 37 (0, 0)) :: L) (radomeref02_Of.R H0 L r) := by
 unfold radomeref02_Of.j1 at he
 unfold radomeref02_Of.Kj1
 refine w_seq ?_
 obtain ⟨y23, hy24, he⟩ := bs he
 refine w_none (w_none (?_))
 refine w_drawn (p := 6) (tl := [6]) [[], [(0, some 20)], [], [], [], [(1, some 21), (3, some 5)]] [some 20, some 21, some 22, some 5, some 6, none] (fctF (.is (.agg ⟨[.bool n_0, v_n_1]⟩) :: .of (radomeref02_size.out y23) (radomeref02_size.out_mono _) :: .is (.agg ⟨[.bool d_0, v_d_1]⟩) :: .box 37 [.bool false, .slice none 0 0] :: .box 37 [.bool false, .slice none 0 0] :: .st 3 (fun H bq_ itq_ => ∃ v31, itq_ = some (bq_, .cells ⟨[.bool y23.f_Neg, v31]⟩ 37 (0, 0)) ∧ Ro kI64 H v31 y23.f_D) (by rintro _ _ _ _ hle ⟨v31, rfl, h32⟩; exact ⟨v31, rfl, h32.mono hle⟩) :: [])) (fun m_ => pk (m_ 5) (m_ 3) :: m_ 4 :: some (b_t4, .cells ⟨[.bool false, .slice none 0 0, .bool false, .slice none 0 0]⟩ 40 (0, 0)) :: some (b_d, .cells ⟨[.bool d_0, v_d_1]⟩ 37 (0, 0)) :: some (b_n, .cells ⟨[.bool n_0, v_n_1]⟩ 37 (0, 0)) :: L) (fun _ => none) mixed (by kernel_rfl) (by kernel_rfl) rfl (fct_mono (by kernel_rfl)) ⟨(fun H' m_ hH hm_ hu_ => dn <| s_d (m_ 0) rfl (d_loado (v := .agg ⟨[.bool n_0, v_n_1]⟩) ty37 rfl (.there (.there (.there (.there .here)))) rfl rfl rfl rfl) (by exact rfl) rfl), (by rintro H' m_ hH hm_ hu_ _ rfl; exact dn <| s_k (m_ 1) rfl (o_call co64 (vs := [.agg ⟨[.bool n_0, v_n_1]⟩]) rfl (radomeref02_size.calls k (a := ⟨n_0, n_1⟩) hy24 (h_n_1.mono hH))) rfl (by rintro v_ H_ _ ⟨rfl, e_, h_⟩; exact ⟨rfl, e_, h_⟩)), (fun H' m_ hH hm_ hu_ => dn <| s_d (m_ 2) rfl (d_loado (v := .agg ⟨[.bool d_0, v_d_1]⟩) ty37 rfl (.there (.there (.there .here))) rfl rfl rfl rfl) (by exact rfl) rfl), (fun H' m_ hH hm_ hu_ => dn <| s_box hm_ rfl rfl (o_alloc zr37 rfl) rfl (fun _ => (pk_upd (hu_ 5 (by kernel_rfl)))) (by exact fun b_ => ⟨b_, rfl, rfl⟩)), (fun H' m_ hH hm_ hu_ => dn <| s_box hm_ rfl rfl (o_alloc zr37 rfl) rfl (fun _ => (.there .here)) (by exact fun b_ => ⟨b_, rfl, rfl⟩)), (by rintro H' m_ hH hm_ hu_ _ ⟨v27, rfl, h28⟩ _ ⟨b29, rfl, hb29_⟩; exact dn <| s_store2 (Λ' := fun z_ => z_ :: m_ 4 :: some (b_t4, .cells ⟨[.bool false, .slice none 0 0, .bool false, .slice none 0 0]⟩ 40 (0, 0)) :: some (b_d, .cells ⟨[.bool d_0, v_d_1]⟩ 37 (0, 0)) :: some (b_n, .cells ⟨[.bool n_0, v_n_1]⟩ 37 (0, 0)) :: L) (some (b29, .cells ⟨[.bool y23.f_Neg, v27]⟩ 37 (0, 0))) hm_ rfl hb29_ rfl (o_store (v := .agg ⟨[.bool y23.f_Neg, v27]⟩) sz37 rfl rfl rfl rfl (oc rfl (oc (h28.one) oz)) .here u2) rfl rfl (by exact ⟨rfl, v27, congrArg (fun b_ => (some (b_, Obj.cells ⟨[.bool y23.f_Neg, v27]⟩ 37 (0, 0)) : Item')) (bof_eq hb29_).symm, h28⟩)), trivial⟩ ?_
 intro H35 e36
 rintro _ _ rfl _ _ ⟨v27, rfl, h28⟩ _ _ rfl _ _ ⟨b29, rfl, rfl⟩ _ _ ⟨b30, rfl, rfl⟩ _ i33 ⟨rfl, v31, h34, h32⟩
 replace h34 : i33 = some (b29, .cells ⟨[.bool y23.f_Neg, v31]⟩ 37 (0, 0)) := h34
 subst h34
 refine w_it (L' := some (b29, .cells ⟨[.bool y23.f_Neg, v31]⟩ 37 (0, 0)) :: some (b30, .cells ⟨[.bool false, .slice none 0 0]⟩ 37 (0, 0)) :: some (b_t4, .cells ⟨[.bool false, .slice none 0 0, .bool false, .slice none 0 0]⟩ 40 (0, 0)) :: some (b_d, .cells ⟨[.bool d_0, v_d_1]⟩ 37 (0, 0)) :: some (b_n, .cells ⟨[.bool n_0, v_n_1]⟩ 37 (0, 0)) :: L) rfl <| w_a0 rfl (o_store (v := .agg ⟨[.bool d_0, v_d_1]⟩) sz37 rfl rfl rfl rfl (oc rfl (oc (h_d_1.one) oz)) (.there .here) u2) ?_
 rintro _ _ _ ⟨rfl, rfl, rfl⟩
 refine wE <| w_block <| w_loop <| w_sl 2 (.pointer (some ⟨b_n, 0, none⟩)) rfl <| w_sl 3 (.pointer (some ⟨b_d, 0, none⟩)) rfl <| w_sl 4 (.pointer (some ⟨b_t4, 0, none⟩)) rfl <| w_sl 5 (.pointer (some ⟨b29, 0, none⟩)) rfl <| w_sl 6 (.pointer (some ⟨b30, 0, none⟩)) rfl <| hh.l0 (hle.trans e36) he (h_n_1.mono e36) (h_d_1.mono e36) h32 (h_d_1.mono e36)
theorem radomeref02_Of.b0_ok {k : Nat} {h : radomeref02_Of.Hs} (hh : radomeref02_Of.OK h) {H0 H : Hp} {L : Items} {r : radomeref02_Ratio} {jk_ : Nat → Value} {n_0 : Bool} {n_1 : List Int} {d_0 : Bool} {d_1 : List Int} {a_0 : Bool} {a_1 : List Int} {b_0 : Bool} {b_1 : List Int} {v_n_1 : Value} {v_d_1 : Value} {v_a_1 : Value} {v_b_1 : Value} {b_n : Nat} {b_d : Nat} {b_t4 : Nat} {b_a : Nat} {b_b : Nat} (hle : H0.le H) (he : radomeref02_Of.b0 k h n_0 n_1 d_0 d_1 a_0 a_1 b_0 b_1 = some r) (h_n_1 : Ro kI64 H v_n_1 n_1) (h_d_1 : Ro kI64 H v_d_1 d_1) (h_a_1 : Ro kI64 H v_a_1 a_1) (h_b_1 : Ro kI64 H v_b_1 b_1) : Wp Tryz.prog 13 49 radomeref02_Of.Kl0 (upd (upd (upd (upd (upd jk_ 2 (.pointer (some ⟨b_n, 0, none⟩))) 3 (.pointer (some ⟨b_d, 0, none⟩))) 4 (.pointer (some ⟨b_t4, 0, none⟩))) 5 (.pointer (some ⟨b_a, 0, none⟩))) 6 (.pointer (some ⟨b_b, 0, none⟩))) H (some (b_a, .cells ⟨[.bool a_0, v_a_1]⟩ 37 (0, 0)) :: some (b_b, .cells ⟨[.bool b_0, v_b_1]⟩ 37 (0, 0)) :: some (b_t4, .cells ⟨[.bool false, .slice none 0 0, .bool false, .slice none 0 0]⟩ 40 (0, 0)) :: some (b_d, .cells ⟨[.bool d_0, v_d_1]⟩ 37 (0, 0)) :: some (b_n, .cells ⟨[.bool n_0, v_n_1]⟩ 37 (0, 0)) :: L) (radomeref02_Of.R H0 L r) := by
 unfold radomeref02_Of.b0 at he
 unfold radomeref02_Of.Kl0
 refine w_seq <| wR rfl <| wL (.agg ⟨[.bool b_0, v_b_1]⟩) ty37 rfl rfl (.there .here) rfl rfl ?_
 obtain ⟨y37, hy38, he⟩ := bs he
 refine w_d rfl (call_d (o_call co62 (vs := [.agg ⟨[.bool b_0, v_b_1]⟩]) rfl (radomeref01_Sign.calls k (a := ⟨b_0, b_1⟩) hy38 h_b_1))) <| w_d rfl (d_neq rfl rfl) <| w_done ?_
 rcases its he with ⟨c41, he⟩ | ⟨c41, he⟩
 ·
  refine w_else rfl (nd_t c41) <| w_exit rfl <| wR rfl <| wL (.agg ⟨[.bool n_0, v_n_1]⟩) ty37 rfl rfl (.there (.there (.there (.there .here)))) rfl rfl <| wL (.agg ⟨[.bool a_0, v_a_1]⟩) ty37 rfl rfl .here rfl rfl ?_
  obtain ⟨y42, hy43, he⟩ := bs he
  refine w_a rfl (o_call co65 (vs := [.agg ⟨[.bool n_0, v_n_1]⟩, .agg ⟨[.bool a_0, v_a_1]⟩]) rfl (radomeref01_Div.calls k (a := ⟨n_0, n_1⟩) (b := ⟨a_0, a_1⟩) hy43 h_n_1 h_a_1)) ?_
  rintro _ H44 _ ⟨rfl, e45, ⟨v46, v48, rfl, h47, h49⟩⟩
  refine wM (.tuple ⟨[.agg ⟨[.bool y42.1.f_Neg, v46]⟩, .agg ⟨[.bool y42.2.f_Neg, v48]⟩]⟩) rfl rfl <| w_d rfl (d_ext (vs := [.agg ⟨[.bool y42.1.f_Neg, v46]⟩, .agg ⟨[.bool y42.2.f_Neg, v48]⟩]) rfl rfl) <| w_d rfl (d_ext (vs := [.agg ⟨[.bool y42.1.f_Neg, v46]⟩, .agg ⟨[.bool y42.2.f_Neg, v48]⟩]) rfl rfl) <| w_a rfl (o_alloc zr37 rfl) ?_
  rintro _ _ _ ⟨b50, rfl, rfl, rfl⟩
  refine w_a rfl (o_alloc zr37 rfl) ?_
  rintro _ _ _ ⟨b51, rfl, rfl, rfl⟩
  refine w_a0 rfl (o_store (v := .agg ⟨[.bool y42.1.f_Neg, v46]⟩) sz37 rfl rfl rfl rfl (oc rfl (oc (h47.one) oz)) (.there .here) u2) ?_
  rintro _ _ _ ⟨rfl, rfl, rfl⟩
  refine w_a0 rfl (o_store (v := .agg ⟨[.bool y42.2.f_Neg, v48]⟩) sz37 rfl rfl rfl rfl (oc rfl (oc (h49.one) oz)) .here u2) ?_
  rintro _ _ _ ⟨rfl, rfl, rfl⟩
  refine wQ rfl <| w_d rfl (d_loado (v := .agg ⟨[.bool d_0, v_d_1]⟩) ty37 rfl (.there (.there (.there (.there (.there .here))))) rfl rfl rfl rfl) <| wL (.agg ⟨[.bool a_0, v_a_1]⟩) ty37 rfl rfl (.there (.there .here)) rfl rfl ?_
  obtain ⟨y52, hy53, he⟩ := bs he
  refine w_a rfl (o_call co65 (vs := [.agg ⟨[.bool d_0, v_d_1]⟩, .agg ⟨[.bool a_0, v_a_1]⟩]) rfl (radomeref01_Div.calls k (a := ⟨d_0, d_1⟩) (b := ⟨a_0, a_1⟩) hy53 (h_d_1.mono e45) (h_a_1.mono e45))) ?_
  rintro _ H54 _ ⟨rfl, e55, ⟨v56, v58, rfl, h57, h59⟩⟩
  refine wM (.tuple ⟨[.agg ⟨[.bool y52.1.f_Neg, v56]⟩, .agg ⟨[.bool y52.2.f_Neg, v58]⟩]⟩) rfl rfl <| w_d rfl (d_ext (vs := [.agg ⟨[.bool y52.1.f_Neg, v56]⟩, .agg ⟨[.bool y52.2.f_Neg, v58]⟩]) rfl rfl) <| w_d rfl (d_ext (vs := [.agg ⟨[.bool y52.1.f_Neg, v56]⟩, .agg ⟨[.bool y52.2.f_Neg, v58]⟩]) rfl rfl) <| w_a rfl (o_alloc zr37 rfl) ?_
  rintro _ _ _ ⟨b60, rfl, rfl, rfl⟩
  refine w_a rfl (o_alloc zr37 rfl) ?_
  rintro _ _ _ ⟨b61, rfl, rfl, rfl⟩
  refine w_a0 rfl (o_store (v := .agg ⟨[.bool y52.1.f_Neg, v56]⟩) sz37 rfl rfl rfl rfl (oc rfl (oc (h57.one) oz)) (.there .here) u2) ?_
  rintro _ _ _ ⟨rfl, rfl, rfl⟩
  refine w_a0 rfl (o_store (v := .agg ⟨[.bool y52.2.f_Neg, v58]⟩) sz37 rfl rfl rfl rfl (oc rfl (oc (h59.one) oz)) .here u2) ?_
  rintro _ _ _ ⟨rfl, rfl, rfl⟩
  refine wQ rfl <| wL (.agg ⟨[.bool y42.1.f_Neg, v46]⟩) ty37 rfl rfl (.there (.there (.there .here))) rfl rfl <| wL (.agg ⟨[.bool y52.1.f_Neg, v56]⟩) ty37 rfl rfl (.there .here) rfl rfl <| w_d rfl (d_build (cs' := [.bool y42.1.f_Neg, v46, .bool y52.1.f_Neg, v56]) Tryz.underlying40 zr40 rfl (by kernel_rfl) (parts := [(0, .agg ⟨[.bool y42.1.f_Neg, v46]⟩), (1, .agg ⟨[.bool y52.1.f_Neg, v56]⟩)]) rfl (.cons (place_of rfl sz37 rfl) rfl rfl u2 (.cons (place_of rfl sz37 rfl) rfl rfl (.there (.there u2)) .nil))) <| w_a0 rfl (o_store (v := .agg ⟨[.bool y42.1.f_Neg, v46, .bool y52.1.f_Neg, v56]⟩) sz40 rfl rfl rfl rfl (oc rfl (oc (h47.one) (oc rfl (oc (h57.one) oz)))) (.there (.there (.there (.there (.there (.there .here)))))) u4) ?_
  rintro _ _ _ ⟨rfl, rfl, rfl⟩
  refine w_done ?_
  obtain rfl := sj he
  refine w_return fn_13 rs_13 (.box (v := .agg ⟨[.bool y42.1.f_Neg, v46, .bool y52.1.f_Neg, v56]⟩) rfl ty40 rfl rfl (.there (.there (.there (.there (.there (.there .here)))))) rfl .nil) <| ⟨⟨[_, _, _, _, _, _, _, _, _], rfl⟩, hle.trans (e45.trans e55), ⟨v46, v56, rfl, (h47.mono e55), h57⟩⟩
 ·
  refine w_then rfl (nd_f c41) <| w_skip <| w_block <| wR rfl <| wL (.agg ⟨[.bool a_0, v_a_1]⟩) ty37 rfl rfl .here rfl rfl <| wL (.agg ⟨[.bool b_0, v_b_1]⟩) ty37 rfl rfl (.there .here) rfl rfl ?_
  obtain ⟨y62, hy63, he⟩ := bs he
  refine w_a rfl (o_call co65 (vs := [.agg ⟨[.bool a_0, v_a_1]⟩, .agg ⟨[.bool b_0, v_b_1]⟩]) rfl (radomeref01_Div.calls k (a := ⟨a_0, a_1⟩) (b := ⟨b_0, b_1⟩) hy63 h_a_1 h_b_1)) ?_
  rintro _ H64 _ ⟨rfl, e65, ⟨v66, v68, rfl, h67, h69⟩⟩
  refine wM (.tuple ⟨[.agg ⟨[.bool y62.1.f_Neg, v66]⟩, .agg ⟨[.bool y62.2.f_Neg, v68]⟩]⟩) rfl rfl <| w_d rfl (d_ext (vs := [.agg ⟨[.bool y62.1.f_Neg, v66]⟩, .agg ⟨[.bool y62.2.f_Neg, v68]⟩]) rfl rfl) <| w_d rfl (d_ext (vs := [.agg ⟨[.bool y62.1.f_Neg, v66]⟩, .agg ⟨[.bool y62.2.f_Neg, v68]⟩]) rfl rfl) <| w_a rfl (o_alloc zr37 rfl) ?_
  rintro _ _ _ ⟨b70, rfl, rfl, rfl⟩
  refine w_a rfl (o_alloc zr37 rfl) ?_
  rintro _ _ _ ⟨b71, rfl, rfl, rfl⟩
  refine w_a0 rfl (o_store (v := .agg ⟨[.bool y62.1.f_Neg, v66]⟩) sz37 rfl rfl rfl rfl (oc rfl (oc (h67.one) oz)) (.there .here) u2) ?_
  rintro _ _ _ ⟨rfl, rfl, rfl⟩
  refine w_a0 rfl (o_store (v := .agg ⟨[.bool y62.2.f_Neg, v68]⟩) sz37 rfl rfl rfl rfl (oc rfl (oc (h69.one) oz)) .here u2) ?_
  rintro _ _ _ ⟨rfl, rfl, rfl⟩
  refine w_done <| w_drawn (p := 3) (tl := [3]) [[], [], [(0, some 32)]] [some 32, some 33, none] (fctF (.is (.agg ⟨[.bool b_0, v_b_1]⟩) :: .is (.agg ⟨[.bool y62.2.f_Neg, v68]⟩) :: .itm (fun H itq_ => itq_ = some (b_a, .cells ⟨[.bool b_0, v_b_1]⟩ 37 (0, 0))) (by rintro _ _ _ hle rfl; exact rfl) :: [])) (fun m_ => some (b71, .cells ⟨[.bool y62.2.f_Neg, v68]⟩ 37 (0, 0)) :: some (b70, .cells ⟨[.bool y62.1.f_Neg, v66]⟩ 37 (0, 0)) :: m_ 2 :: some (b_b, .cells ⟨[.bool b_0, v_b_1]⟩ 37 (0, 0)) :: some (b_t4, .cells ⟨[.bool false, .slice none 0 0, .bool false, .slice none 0 0]⟩ 40 (0, 0)) :: some (b_d, .cells ⟨[.bool d_0, v_d_1]⟩ 37 (0, 0)) :: some (b_n, .cells ⟨[.bool n_0, v_n_1]⟩ 37 (0, 0)) :: L) (fun i_ => if i_ = 2 then some (b_a, .cells ⟨[.bool a_0, v_a_1]⟩ 37 (0, 0)) else none) mixed (by kernel_rfl) (by kernel_rfl) rfl (fct_mono (by kernel_rfl)) ⟨(fun H' m_ hH hm_ hu_ => dn <| s_d (m_ 0) rfl (d_loado (v := .agg ⟨[.bool b_0, v_b_1]⟩) ty37 rfl (.there (.there (.there .here))) rfl rfl rfl rfl) (by exact rfl) rfl), (fun H' m_ hH hm_ hu_ => dn <| s_d (m_ 1) rfl (d_loado (v := .agg ⟨[.bool y62.2.f_Neg, v68]⟩) ty37 rfl .here rfl rfl rfl rfl) (by exact rfl) rfl), (by rintro H' m_ hH hm_ hu_ _ rfl; exact dn <| s_store (some (b_a, .cells ⟨[.bool b_0, v_b_1]⟩ 37 (0, 0))) hm_ rfl (o_store (v := .agg ⟨[.bool b_0, v_b_1]⟩) sz37 rfl rfl rfl rfl (oc rfl (oc (h_b_1.one) oz)) (.there (.there .here)) u2) rfl (by exact ⟨rfl, rfl⟩)), trivial⟩ ?_
  intro H72 e73
  rintro _ _ rfl _ _ rfl _ _ ⟨rfl, rfl⟩
  refine w_it (L' := some (b71, .cells ⟨[.bool y62.2.f_Neg, v68]⟩ 37 (0, 0)) :: some (b70, .cells ⟨[.bool y62.1.f_Neg, v66]⟩ 37 (0, 0)) :: some (b_a, .cells ⟨[.bool b_0, v_b_1]⟩ 37 (0, 0)) :: some (b_b, .cells ⟨[.bool b_0, v_b_1]⟩ 37 (0, 0)) :: some (b_t4, .cells ⟨[.bool false, .slice none 0 0, .bool false, .slice none 0 0]⟩ 40 (0, 0)) :: some (b_d, .cells ⟨[.bool d_0, v_d_1]⟩ 37 (0, 0)) :: some (b_n, .cells ⟨[.bool n_0, v_n_1]⟩ 37 (0, 0)) :: L) rfl <| w_a0 rfl (o_store (v := .agg ⟨[.bool y62.2.f_Neg, v68]⟩) sz37 rfl rfl rfl rfl (oc rfl (oc (h69.one) oz)) (.there (.there (.there .here))) u2) ?_
  rintro _ _ _ ⟨rfl, rfl, rfl⟩
  refine w_done <| w_inBlock <| w_inLoop <| w_del (.there .here) <| w_del .here <| w_sl 2 (.pointer (some ⟨b_n, 0, none⟩)) rfl <| w_sl 3 (.pointer (some ⟨b_d, 0, none⟩)) rfl <| w_sl 4 (.pointer (some ⟨b_t4, 0, none⟩)) rfl <| w_sl 5 (.pointer (some ⟨b_a, 0, none⟩)) rfl <| w_sl 6 (.pointer (some ⟨b_b, 0, none⟩)) rfl <| hh.l0 (hle.trans (e65.trans e73)) he (h_n_1.mono (e65.trans e73)) (h_d_1.mono (e65.trans e73)) (h_b_1.mono (e65.trans e73)) (h69.mono e73)
theorem radomeref02_Of.ok : ∀ k, radomeref02_Of.OK (radomeref02_Of.hs k)
 | 0 => ⟨(by intros; exact nomatch (show none = some _ from by assumption))⟩
 | k + 1 => ⟨radomeref02_Of.b0_ok (k := k) (radomeref02_Of.ok k)⟩
theorem radomeref02_Of.calls (k : Nat) {H : Hp} {L : Items} {n : radomeref01_Num} {d : radomeref01_Num} {v0_n : Value} {v1_d : Value} {r : radomeref02_Ratio} (he : radomeref02_Of.f k n d = some r) (h0_n : Ro kI64 H v0_n n.f_D) (h1_d : Ro kI64 H v1_d d.f_D) : Ct Tryz.prog 13 ⟨[.agg ⟨[.bool n.f_Neg, v0_n]⟩, .agg ⟨[.bool d.f_Neg, v1_d]⟩]⟩ H L (cR H L (radomeref02_Of.out r)) := by
 refine ct_out (O := radomeref02_Of.out r) ?_
 have hle : H.le H := .refl _
 have hh := radomeref02_Of.ok k
 unfold radomeref02_Of.f at he
 refine ct_enter (args := [.agg ⟨[.bool n.f_Neg, v0_n]⟩, .agg ⟨[.bool d.f_Neg, v1_d]⟩]) fn_13 rfl nt_13 rfl <| wR rfl <| w_a rfl (o_box (v := .agg ⟨[.bool n.f_Neg, v0_n]⟩) rfl rfl) ?_
 rintro _ _ _ ⟨b1, rfl, rfl, rfl⟩
 refine w_a rfl (o_box (v := .agg ⟨[.bool d.f_Neg, v1_d]⟩) rfl rfl) ?_
 rintro _ _ _ ⟨b2, rfl, rfl, rfl⟩
 refine w_a rfl (o_alloc zr40 rfl) ?_
 rintro _ _ _ ⟨b3, rfl, rfl, rfl⟩
 refine wE <| wR rfl <| wL (.agg ⟨[.bool d.f_Neg, v1_d]⟩) ty37 rfl rfl (.there .here) rfl rfl ?_
 obtain ⟨y4, hy5, he⟩ := bs he
 refine w_d rfl (call_d (o_call co62 (vs := [.agg ⟨[.bool d.f_Neg, v1_d]⟩]) rfl (radomeref01_Sign.calls k (a := d) hy5 h1_d))) <| w_d rfl (d_lss rfl rfl) <| w_done ?_
 rcases its he with ⟨c8, he⟩ | ⟨c8, he⟩
 ·
  refine w_then rfl (dt c8) ?_
  obtain ⟨y9, hy10, he⟩ := bs he
  refine w_drawn (p := 3) (tl := [3, 4, 5]) [[], [(0, some 16)], []] [some 16, some 17, some 18] (fctF (.is (.agg ⟨[.bool n.f_Neg, v0_n]⟩) :: .of (radomeref01_Neg.out y9) (radomeref01_Neg.out_mono _) :: .is (.agg ⟨[.bool d.f_Neg, v1_d]⟩) :: [])) (fun m_ => some (b3, .cells ⟨[.bool false, .slice none 0 0, .bool false, .slice none 0 0]⟩ 40 (0, 0)) :: some (b2, .cells ⟨[.bool d.f_Neg, v1_d]⟩ 37 (0, 0)) :: some (b1, .cells ⟨[.bool n.f_Neg, v0_n]⟩ 37 (0, 0)) :: L) (fun _ => none) mixed (by kernel_rfl) (by kernel_rfl) rfl (fct_mono (by kernel_rfl)) ⟨(fun H' m_ hH hm_ hu_ => dn <| s_d (m_ 0) rfl (d_loado (v := .agg ⟨[.bool n.f_Neg, v0_n]⟩) ty37 rfl (.there (.there .here)) rfl rfl rfl rfl) (by exact rfl) rfl), (by rintro H' m_ hH hm_ hu_ _ rfl; exact dn <| s_k (m_ 1) rfl (o_call co63 (vs := [.agg ⟨[.bool n.f_Neg, v0_n]⟩]) rfl (radomeref01_Neg.calls k (a := n) hy10 (h0_n.mono hH))) rfl (by rintro v_ H_ _ ⟨rfl, e_, h_⟩; exact ⟨rfl, e_, h_⟩)), (fun H' m_ hH hm_ hu_ => dn <| s_d (m_ 2) rfl (d_loado (v := .agg ⟨[.bool d.f_Neg, v1_d]⟩) ty37 rfl (.there .here) rfl rfl rfl rfl) (by exact rfl) rfl), trivial⟩ ?_
  intro H15 e16
  rintro _ _ rfl _ _ ⟨v13, rfl, h14⟩ _ _ rfl
  obtain ⟨y17, hy18, he⟩ := bs he
  refine w_a rfl (o_call co63 (vs := [.agg ⟨[.bool d.f_Neg, v1_d]⟩]) rfl (radomeref01_Neg.calls k (a := d) hy18 (h1_d.mono e16))) ?_
  rintro _ H19 _ ⟨rfl, e20, ⟨v21, rfl, h22⟩⟩
  refine w_a0 rfl (o_store (v := .agg ⟨[.bool y9.f_Neg, v13]⟩) sz37 rfl rfl rfl rfl (oc rfl (oc (h14.one) oz)) (.there (.there .here)) u2) ?_
  rintro _ _ _ ⟨rfl, rfl, rfl⟩
  refine w_a0 rfl (o_store (v := .agg ⟨[.bool y17.f_Neg, v21]⟩) sz37 rfl rfl rfl rfl (oc rfl (oc (h22.one) oz)) (.there .here) u2) ?_
  rintro _ _ _ ⟨rfl, rfl, rfl⟩
  refine w_done <| w_sl 2 (.pointer (some ⟨b1, 0, none⟩)) rfl <| w_sl 3 (.pointer (some ⟨b2, 0, none⟩)) rfl <| w_sl 4 (.pointer (some ⟨b3, 0, none⟩)) rfl <| radomeref02_Of.j1_ok (k := k) hh (hle.trans (e16.trans e20)) he (h14.mono e20) h22
 ·
  refine w_else rfl (df c8) <| w_skip <| w_sl 2 (.pointer (some ⟨b1, 0, none⟩)) rfl <| w_sl 3 (.pointer (some ⟨b2, 0, none⟩)) rfl <| w_sl 4 (.pointer (some ⟨b3, 0, none⟩)) rfl <| radomeref02_Of.j1_ok (k := k) hh hle he h0_n h1_d
noncomputable def radomelaw34_fraction.C : Code := (Tryz.f75.body).getD .skip
def radomelaw34_fraction.out (r : radomeref02_Ratio) (H : Hp) (v : Value) : Prop := ∃ v0, ∃ v1, v = .agg ⟨[.bool r.f_N.f_Neg, v0, .bool r.f_D.f_Neg, v1]⟩ ∧ Ro kI64 H v0 r.f_N.f_D ∧ Ro kI64 H v1 r.f_D.f_D
theorem radomelaw34_fraction.out_mono (r : radomeref02_Ratio) {H H' : Hp} {v : Value} (hle : H.le H') (h : radomelaw34_fraction.out r H v) : radomelaw34_fraction.out r H' v := by
 obtain ⟨v0, v1, rfl, h0, h1⟩ := h; exact ⟨v0, v1, rfl, h0.mono hle, h1.mono hle⟩
noncomputable def radomelaw34_fraction.f (k : Nat) (n : List Int) (d : List Int) (neg : Bool) : Option radomeref02_Ratio := (radomelaw34_whole.f k n neg 60).bind fun y2 => (radomelaw34_whole.f k d false 60).bind fun y8 => (radomeref01_Sign.f k y8).bind fun y16 => if y16 = 0 then ((radomeref01_Of.f k 1).bind fun y21 => (radomeref02_Of.f k y2 y21).bind fun y27 => some (y27)) else ((radomeref02_Of.f k y2 y8).bind fun y35 => some (y35))
theorem radomelaw34_fraction.calls (k : Nat) {H : Hp} {L : Items} {n : List Int} {d : List Int} {neg : Bool} {v0_n : Value} {v1_d : Value} {r : radomeref02_Ratio} (he : radomelaw34_fraction.f k n d neg = some r) (h0_n : Src kU8 H L v0_n n) (h1_d : Src kU8 H L v1_d d) : Ct Tryz.prog 75 ⟨[v0_n, v1_d, .bool neg]⟩ H L (cR H L (radomelaw34_fraction.out r)) := by
 refine ct_out (O := radomelaw34_fraction.out r) ?_
 have hle : H.le H := .refl _
 unfold radomelaw34_fraction.f at he
 refine ct_enter (args := [v0_n, v1_d, .bool neg]) fn_75 rfl nt_75 rfl <| wR rfl <| w_a rfl (o_alloc zr40 rfl) ?_
 rintro _ _ _ ⟨b1, rfl, rfl, rfl⟩
 refine wQ rfl <| wM v0_n rfl rfl <| wM (.bool neg) rfl rfl ?_
 obtain ⟨y2, hy3, he⟩ := bs he
 refine w_a rfl (o_call co126 (vs := [v0_n, .bool neg, .int .i64 60]) rfl (radomelaw34_whole.calls k hy3 h0_n.th)) ?_
 rintro _ H4 _ ⟨rfl, e5, ⟨v6, rfl, h7⟩⟩
 refine wM v1_d rfl rfl ?_
 obtain ⟨y8, hy9, he⟩ := bs he
 refine w_a rfl (o_call co126 (vs := [v1_d, .bool false, .int .i64 60]) rfl (radomelaw34_whole.calls k hy9 ((h1_d.mono e5).th))) ?_
 rintro _ H10 _ ⟨rfl, e11, ⟨v12, rfl, h13⟩⟩
 refine w_a rfl (o_alloc zr37 rfl) ?_
 rintro _ _ _ ⟨b14, rfl, rfl, rfl⟩
 refine w_a rfl (o_alloc zr37 rfl) ?_
 rintro _ _ _ ⟨b15, rfl, rfl, rfl⟩
 refine w_a0 rfl (o_store (v := .agg ⟨[.bool y2.f_Neg, v6]⟩) sz37 rfl rfl rfl rfl (oc rfl (oc (h7.one) oz)) (.there .here) u2) ?_
 rintro _ _ _ ⟨rfl, rfl, rfl⟩
 refine w_a0 rfl (o_store (v := .agg ⟨[.bool y8.f_Neg, v12]⟩) sz37 rfl rfl rfl rfl (oc rfl (oc (h13.one) oz)) .here u2) ?_
 rintro _ _ _ ⟨rfl, rfl, rfl⟩
 refine wE <| wR rfl <| wL (.agg ⟨[.bool y8.f_Neg, v12]⟩) ty37 rfl rfl .here rfl rfl ?_
 obtain ⟨y16, hy17, he⟩ := bs he
 refine w_d rfl (call_d (o_call co62 (vs := [.agg ⟨[.bool y8.f_Neg, v12]⟩]) rfl (radomeref01_Sign.calls k (a := y8) hy17 h13))) <| w_d rfl (d_eql rfl rfl) <| w_done ?_
 rcases its he with ⟨c20, he⟩ | ⟨c20, he⟩
 ·
  refine w_then rfl (dt c20) <| w_region rfl ?_
  obtain ⟨y21, hy22, he⟩ := bs he
  refine w_a rfl (o_call co16 (vs := [.int .i64 1]) rfl (radomeref01_Of.calls k hy22)) ?_
  rintro _ H23 _ ⟨rfl, e24, ⟨v25, rfl, h26⟩⟩
  refine w_a0 rfl (o_store (v := .agg ⟨[.bool y21.f_Neg, v25]⟩) sz37 rfl rfl rfl rfl (oc rfl (oc (h26.one) oz)) .here u2) ?_
  rintro _ _ _ ⟨rfl, rfl, rfl⟩
  refine wQ rfl <| wL (.agg ⟨[.bool y2.f_Neg, v6]⟩) ty37 rfl rfl (.there .here) rfl rfl <| wL (.agg ⟨[.bool y21.f_Neg, v25]⟩) ty37 rfl rfl .here rfl rfl ?_
  obtain ⟨y27, hy28, he⟩ := bs he
  refine w_a rfl (o_call co13 (vs := [.agg ⟨[.bool y2.f_Neg, v6]⟩, .agg ⟨[.bool y21.f_Neg, v25]⟩]) rfl (radomeref02_Of.calls k (n := y2) (d := y21) hy28 (h7.mono (e11.trans e24)) h26)) ?_
  rintro _ H29 _ ⟨rfl, e30, ⟨v31, v33, rfl, h32, h34⟩⟩
  refine w_a0 rfl (o_store (v := .agg ⟨[.bool y27.f_N.f_Neg, v31, .bool y27.f_D.f_Neg, v33]⟩) sz40 rfl rfl rfl rfl (oc rfl (oc (h32.one) (oc rfl (oc (h34.one) oz)))) (.there (.there .here)) u4) ?_
  rintro _ _ _ ⟨rfl, rfl, rfl⟩
  refine w_done ?_
  obtain rfl := sj he
  refine w_return fn_75 rs_75 (.box (v := .agg ⟨[.bool y27.f_N.f_Neg, v31, .bool y27.f_D.f_Neg, v33]⟩) rfl ty40 rfl rfl (.there (.there .here)) rfl .nil) <| ⟨⟨[_, _, _], rfl⟩, hle.trans (((e5.trans e11).trans e24).trans e30), ⟨v31, v33, rfl, h32, h34⟩⟩
 ·
  refine w_else rfl (df c20) <| w_skip <| wR rfl <| wL (.agg ⟨[.bool y2.f_Neg, v6]⟩) ty37 rfl rfl (.there .here) rfl rfl <| wL (.agg ⟨[.bool y8.f_Neg, v12]⟩) ty37 rfl rfl .here rfl rfl ?_
  obtain ⟨y35, hy36, he⟩ := bs he
  refine w_a rfl (o_call co13 (vs := [.agg ⟨[.bool y2.f_Neg, v6]⟩, .agg ⟨[.bool y8.f_Neg, v12]⟩]) rfl (radomeref02_Of.calls k (n := y2) (d := y8) hy36 (h7.mono e11) h13)) ?_
  rintro _ H37 _ ⟨rfl, e38, ⟨v39, v41, rfl, h40, h42⟩⟩
  refine w_a0 rfl (o_store (v := .agg ⟨[.bool y35.f_N.f_Neg, v39, .bool y35.f_D.f_Neg, v41]⟩) sz40 rfl rfl rfl rfl (oc rfl (oc (h40.one) (oc rfl (oc (h42.one) oz)))) (.there (.there .here)) u4) ?_
  rintro _ _ _ ⟨rfl, rfl, rfl⟩
  refine w_done ?_
  obtain rfl := sj he
  refine w_return fn_75 rs_75 (.box (v := .agg ⟨[.bool y35.f_N.f_Neg, v39, .bool y35.f_D.f_Neg, v41]⟩) rfl ty40 rfl rfl (.there (.there .here)) rfl .nil) <| ⟨⟨[_, _, _], rfl⟩, hle.trans ((e5.trans e11).trans e38), ⟨v39, v41, rfl, h40, h42⟩⟩
noncomputable def radomeref01_Two.C : Code := (Tryz.f12.body).getD .skip
def radomeref01_Two.out (r : radomeref01_Num) (H : Hp) (v : Value) : Prop := ∃ v0, v = .agg ⟨[.bool r.f_Neg, v0]⟩ ∧ Ro kI64 H v0 r.f_D
theorem radomeref01_Two.out_mono (r : radomeref01_Num) {H H' : Hp} {v : Value} (hle : H.le H') (h : radomeref01_Two.out r H v) : radomeref01_Two.out r H' v := by
 obtain ⟨v0, rfl, h0⟩ := h; exact ⟨v0, rfl, h0.mono hle⟩
abbrev radomeref01_Two.R (H0 : Hp) (L : Items) (r : radomeref01_Num) := fR H0 L (radomeref01_Two.out r)
structure radomeref01_Two.Hs where
 l0 : Int → Bool → (List Int) → Int → Option radomeref01_Num
 l1 : Int → Bool → (List Int) → Int → Option radomeref01_Num
noncomputable def radomeref01_Two.b0 (k : Nat) (h : radomeref01_Two.Hs)  (n : Int) (x_0 : Bool) (x_1 : List Int) (i : Int) : Option radomeref01_Num := if (w64 (i + 30)) ≤ n then ((radomeref01_Of.f k 1073741824).bind fun y10 => (radomeref01_Mul.f k (⟨x_0, x_1⟩ : radomeref01_Num) y10).bind fun y18 => h.l0 n y18.f_Neg y18.f_D (w64 (i + 30))) else (h.l1 n x_0 x_1 0)
noncomputable def radomeref01_Two.b1 (k : Nat) (h : radomeref01_Two.Hs)  (n : Int) (x_0 : Bool) (x_1 : List Int) (i : Int) : Option radomeref01_Num := if i < (Int.tmod n 30) then ((radomeref01_Add.f k (⟨x_0, x_1⟩ : radomeref01_Num) (⟨x_0, x_1⟩ : radomeref01_Num)).bind fun y25 => h.l1 n y25.f_Neg y25.f_D (w64 (i + 1))) else (some ((⟨x_0, x_1⟩ : radomeref01_Num)))
noncomputable def radomeref01_Two.hs : Nat → radomeref01_Two.Hs
 | 0 => ⟨fun _ _ _ _ => none, fun _ _ _ _ => none⟩
 | k + 1 => ⟨fun x0 x1 x2 x3 => radomeref01_Two.b0 k (radomeref01_Two.hs k) x0 x1 x2 x3, fun x0 x1 x2 x3 => radomeref01_Two.b1 k (radomeref01_Two.hs k) x0 x1 x2 x3⟩
noncomputable def radomeref01_Two.f (k : Nat) (n : Int) : Option radomeref01_Num := (fun h : radomeref01_Two.Hs => (radomeref01_Of.f k 1).bind fun y2 => h.l0 n y2.f_Neg y2.f_D 0) (radomeref01_Two.hs k)
noncomputable def radomeref01_Two.Kl0 : List Item := .code (lopB (blkB (seqR (seqL (seqR (seqR radomeref01_Two.C)))))) :: .inLoop (lopB (blkB (seqR (seqL (seqR (seqR radomeref01_Two.C)))))) :: .inBlock 0 :: .code (seqR (seqR (seqR radomeref01_Two.C))) :: []
noncomputable def radomeref01_Two.Kl1 : List Item := .code (lopB (blkB (seqR (seqL (seqR (seqR (seqR radomeref01_Two.C))))))) :: .inLoop (lopB (blkB (seqR (seqL (seqR (seqR (seqR radomeref01_Two.C))))))) :: .inBlock 2 :: .code (seqR (seqR (seqR (seqR radomeref01_Two.C)))) :: []
structure radomeref01_Two.OK (h : radomeref01_Two.Hs) : Prop where
 l0 : ∀ {H0 H : Hp} {L : Items} {r : radomeref01_Num} {jk_ : Nat → Value} {n : Int} {x_0 : Bool} {x_1 : List Int} {i : Int} {v_x_1 : Value} {b_t2 : Nat} {b_x : Nat} (_ : H0.le H) (_he : h.l0 n x_0 x_1 i = some r) (_h_x_1 : Ro kI64 H v_x_1 x_1), Wp Tryz.prog 12 26 radomeref01_Two.Kl0 (upd (upd (upd (upd jk_ 0 (.int .i64 n)) 2 (.pointer (some ⟨b_t2, 0, none⟩))) 3 (.pointer (some ⟨b_x, 0, none⟩))) 4 (.int .i64 i)) H (some (b_x, .cells ⟨[.bool x_0, v_x_1]⟩ 37 (0, 0)) :: some (b_t2, .cells ⟨[.bool false, .slice none 0 0]⟩ 37 (0, 0)) :: L) (radomeref01_Two.R H0 L r)
 l1 : ∀ {H0 H : Hp} {L : Items} {r : radomeref01_Num} {jk_ : Nat → Value} {n : Int} {x_0 : Bool} {x_1 : List Int} {i : Int} {v_x_1 : Value} {b_t2 : Nat} {b_x : Nat} (_ : H0.le H) (_he : h.l1 n x_0 x_1 i = some r) (_h_x_1 : Ro kI64 H v_x_1 x_1), Wp Tryz.prog 12 26 radomeref01_Two.Kl1 (upd (upd (upd (upd jk_ 0 (.int .i64 n)) 2 (.pointer (some ⟨b_t2, 0, none⟩))) 3 (.pointer (some ⟨b_x, 0, none⟩))) 5 (.int .i64 i)) H (some (b_x, .cells ⟨[.bool x_0, v_x_1]⟩ 37 (0, 0)) :: some (b_t2, .cells ⟨[.bool false, .slice none 0 0]⟩ 37 (0, 0)) :: L) (radomeref01_Two.R H0 L r)
theorem radomeref01_Two.b0_ok {k : Nat} {h : radomeref01_Two.Hs} (hh : radomeref01_Two.OK h) {H0 H : Hp} {L : Items} {r : radomeref01_Num} {jk_ : Nat → Value} {n : Int} {x_0 : Bool} {x_1 : List Int} {i : Int} {v_x_1 : Value} {b_t2 : Nat} {b_x : Nat} (hle : H0.le H) (he : radomeref01_Two.b0 k h n x_0 x_1 i = some r) (h_x_1 : Ro kI64 H v_x_1 x_1) : Wp Tryz.prog 12 26 radomeref01_Two.Kl0 (upd (upd (upd (upd jk_ 0 (.int .i64 n)) 2 (.pointer (some ⟨b_t2, 0, none⟩))) 3 (.pointer (some ⟨b_x, 0, none⟩))) 4 (.int .i64 i)) H (some (b_x, .cells ⟨[.bool x_0, v_x_1]⟩ 37 (0, 0)) :: some (b_t2, .cells ⟨[.bool false, .slice none 0 0]⟩ 37 (0, 0)) :: L) (radomeref01_Two.R H0 L r) := by
 unfold radomeref01_Two.b0 at he
 unfold radomeref01_Two.Kl0
 refine w_seq <| wR rfl <| wM (.int .i64 i) rfl rfl <| w_d rfl (d_add (c := w64 (i + 30)) rfl rfl rfl) <| wM (.int .i64 n) rfl rfl <| w_d rfl (d_leq rfl rfl) <| w_done ?_
 rcases its he with ⟨c9, he⟩ | ⟨c9, he⟩
 ·
  refine w_then rfl (dt c9) <| w_skip <| w_seq <| w_block ?_
  obtain ⟨y10, hy11, he⟩ := bs he
  refine w_drawn (p := 2) (tl := [2, 3]) [[], []] [some 13, some 14] (fctF (.is (.agg ⟨[.bool x_0, v_x_1]⟩) :: .of (radomeref01_Of.out y10) (radomeref01_Of.out_mono _) :: [])) (fun m_ => some (b_x, .cells ⟨[.bool x_0, v_x_1]⟩ 37 (0, 0)) :: some (b_t2, .cells ⟨[.bool false, .slice none 0 0]⟩ 37 (0, 0)) :: L) (fun _ => none) mixed (by kernel_rfl) (by kernel_rfl) rfl (fct_mono (by kernel_rfl)) ⟨(fun H' m_ hH hm_ hu_ => dn <| s_d (m_ 0) rfl (d_loado (v := .agg ⟨[.bool x_0, v_x_1]⟩) ty37 rfl .here rfl rfl rfl rfl) (by exact rfl) rfl), (fun H' m_ hH hm_ hu_ => dn <| s_k (m_ 1) rfl (o_call co16 (vs := [.int .i64 1073741824]) rfl (radomeref01_Of.calls k hy11)) rfl (by rintro v_ H_ _ ⟨rfl, e_, h_⟩; exact ⟨rfl, e_, h_⟩)), trivial⟩ ?_
  intro H16 e17
  rintro _ _ rfl _ _ ⟨v14, rfl, h15⟩
  obtain ⟨y18, hy19, he⟩ := bs he
  refine w_a rfl (o_call co15 (vs := [.agg ⟨[.bool x_0, v_x_1]⟩, .agg ⟨[.bool y10.f_Neg, v14]⟩]) rfl (radomeref01_Mul.calls k (a := ⟨x_0, x_1⟩) (b := y10) hy19 (h_x_1.mono e17) h15)) ?_
  rintro _ H20 _ ⟨rfl, e21, ⟨v22, rfl, h23⟩⟩
  refine w_a0 rfl (o_store (v := .agg ⟨[.bool y18.f_Neg, v22]⟩) sz37 rfl rfl rfl rfl (oc rfl (oc (h23.one) oz)) .here u2) ?_
  rintro _ _ _ ⟨rfl, rfl, rfl⟩
  refine w_done <| w_inBlock <| w_region rfl <| wM (.int .i64 i) rfl rfl <| w_d rfl (d_add (c := w64 (i + 30)) rfl rfl rfl) <| wA (.int .i64 (w64 (i + 30))) rfl rfl <| w_done <| w_inLoop <| w_sl 0 (.int .i64 n) rfl <| w_sl 2 (.pointer (some ⟨b_t2, 0, none⟩)) rfl <| w_sl 3 (.pointer (some ⟨b_x, 0, none⟩)) rfl <| w_sl 4 (.int .i64 (w64 (i + 30))) rfl <| hh.l0 (hle.trans (e17.trans e21)) he h23
 ·
  refine w_else rfl (df c9) <| w_exit rfl <| w_seq <| wR rfl <| wA (.int .i64 0) rfl rfl <| w_done <| w_block <| w_loop <| w_sl 0 (.int .i64 n) rfl <| w_sl 2 (.pointer (some ⟨b_t2, 0, none⟩)) rfl <| w_sl 3 (.pointer (some ⟨b_x, 0, none⟩)) rfl ?_
  refine w_sl 5 (.int .i64 0) rfl <| hh.l1 hle he h_x_1
theorem radomeref01_Two.b1_ok {k : Nat} {h : radomeref01_Two.Hs} (hh : radomeref01_Two.OK h) {H0 H : Hp} {L : Items} {r : radomeref01_Num} {jk_ : Nat → Value} {n : Int} {x_0 : Bool} {x_1 : List Int} {i : Int} {v_x_1 : Value} {b_t2 : Nat} {b_x : Nat} (hle : H0.le H) (he : radomeref01_Two.b1 k h n x_0 x_1 i = some r) (h_x_1 : Ro kI64 H v_x_1 x_1) : Wp Tryz.prog 12 26 radomeref01_Two.Kl1 (upd (upd (upd (upd jk_ 0 (.int .i64 n)) 2 (.pointer (some ⟨b_t2, 0, none⟩))) 3 (.pointer (some ⟨b_x, 0, none⟩))) 5 (.int .i64 i)) H (some (b_x, .cells ⟨[.bool x_0, v_x_1]⟩ 37 (0, 0)) :: some (b_t2, .cells ⟨[.bool false, .slice none 0 0]⟩ 37 (0, 0)) :: L) (radomeref01_Two.R H0 L r) := by
 unfold radomeref01_Two.b1 at he
 unfold radomeref01_Two.Kl1
 refine w_seq <| wR rfl <| wM (.int .i64 i) rfl rfl <| wM (.int .i64 n) rfl rfl <| w_d rfl (d_rem rfl rfl (by decide)) <| w_d rfl (d_lss rfl rfl) <| w_done ?_
 rcases its he with ⟨c24, he⟩ | ⟨c24, he⟩
 ·
  refine w_then rfl (dt c24) <| w_skip <| w_seq <| w_block <| w_region rfl <| wL (.agg ⟨[.bool x_0, v_x_1]⟩) ty37 rfl rfl .here rfl rfl <| wL (.agg ⟨[.bool x_0, v_x_1]⟩) ty37 rfl rfl .here rfl rfl ?_
  obtain ⟨y25, hy26, he⟩ := bs he
  refine w_a rfl (o_call co17 (vs := [.agg ⟨[.bool x_0, v_x_1]⟩, .agg ⟨[.bool x_0, v_x_1]⟩]) rfl (radomeref01_Add.calls k (a := ⟨x_0, x_1⟩) (b := ⟨x_0, x_1⟩) hy26 h_x_1 h_x_1)) ?_
  rintro _ H27 _ ⟨rfl, e28, ⟨v29, rfl, h30⟩⟩
  refine w_a0 rfl (o_store (v := .agg ⟨[.bool y25.f_Neg, v29]⟩) sz37 rfl rfl rfl rfl (oc rfl (oc (h30.one) oz)) .here u2) ?_
  rintro _ _ _ ⟨rfl, rfl, rfl⟩
  refine w_done <| w_inBlock <| w_region rfl <| wM (.int .i64 i) rfl rfl <| w_d rfl (d_add (c := w64 (i + 1)) rfl rfl rfl) <| wA (.int .i64 (w64 (i + 1))) rfl rfl <| w_done <| w_inLoop <| w_sl 0 (.int .i64 n) rfl <| w_sl 2 (.pointer (some ⟨b_t2, 0, none⟩)) rfl <| w_sl 3 (.pointer (some ⟨b_x, 0, none⟩)) rfl <| w_sl 5 (.int .i64 (w64 (i + 1))) rfl <| hh.l1 (hle.trans e28) he h30
 ·
  refine w_else rfl (df c24) <| w_exit rfl <| wR rfl <| wL (.agg ⟨[.bool x_0, v_x_1]⟩) ty37 rfl rfl .here rfl rfl <| w_a0 rfl (o_store (v := .agg ⟨[.bool x_0, v_x_1]⟩) sz37 rfl rfl rfl rfl (oc rfl (oc (h_x_1.one) oz)) (.there .here) u2) ?_
  rintro _ _ _ ⟨rfl, rfl, rfl⟩
  refine w_done ?_
  obtain rfl := sj he
  refine w_return fn_12 rs_12 (.box (v := .agg ⟨[.bool x_0, v_x_1]⟩) rfl ty37 rfl rfl (.there .here) rfl .nil) <| ⟨⟨[_, _], rfl⟩, hle, ⟨v_x_1, rfl, h_x_1⟩⟩
theorem radomeref01_Two.ok : ∀ k, radomeref01_Two.OK (radomeref01_Two.hs k)
 | 0 => ⟨(by intros; exact nomatch (show none = some _ from by assumption)), (by intros; exact nomatch (show none = some _ from by assumption))⟩
 | k + 1 => ⟨radomeref01_Two.b0_ok (k := k) (radomeref01_Two.ok k), radomeref01_Two.b1_ok (k := k) (radomeref01_Two.ok k)⟩
theorem radomeref01_Two.calls (k : Nat) {H : Hp} {L : Items} {n : Int} {r : radomeref01_Num} (he : radomeref01_Two.f k n = some r) : Ct Tryz.prog 12 ⟨[.int .i64 n]⟩ H L (cR H L (radomeref01_Two.out r)) := by
 refine ct_out (O := radomeref01_Two.out r) ?_
 have hle : H.le H := .refl _
 have hh := radomeref01_Two.ok k
 unfold radomeref01_Two.f at he
 refine ct_enter (args := [.int .i64 n]) fn_12 rfl nt_12 rfl <| wR rfl <| w_a rfl (o_alloc zr37 rfl) ?_
 rintro _ _ _ ⟨b1, rfl, rfl, rfl⟩
 refine wQ rfl ?_
 obtain ⟨y2, hy3, he⟩ := bs he
 refine w_a rfl (o_call co16 (vs := [.int .i64 1]) rfl (radomeref01_Of.calls k hy3)) ?_
 rintro _ H4 _ ⟨rfl, e5, ⟨v6, rfl, h7⟩⟩
 refine w_a rfl (o_alloc zr37 rfl) ?_
 rintro _ _ _ ⟨b8, rfl, rfl, rfl⟩
 refine w_a0 rfl (o_store (v := .agg ⟨[.bool y2.f_Neg, v6]⟩) sz37 rfl rfl rfl rfl (oc rfl (oc (h7.one) oz)) .here u2) ?_
 rintro _ _ _ ⟨rfl, rfl, rfl⟩
 refine wE <| wR rfl <| wA (.int .i64 0) rfl rfl <| w_done <| w_block <| w_loop <| w_sl 0 (.int .i64 n) rfl <| w_sl 2 (.pointer (some ⟨b1, 0, none⟩)) rfl <| w_sl 3 (.pointer (some ⟨b8, 0, none⟩)) rfl <| w_sl 4 (.int .i64 0) rfl <| hh.l0 (hle.trans e5) he h7
noncomputable def radomeref01_Fits.C : Code := (Tryz.f146.body).getD .skip
def radomeref01_Fits.out (r : Bool) (H : Hp) (v : Value) : Prop := v = .bool r
noncomputable def radomeref01_Fits.f (k : Nat) (a : radomeref01_Num) (bits : Int) : Option Bool := (radomeref01_Two.f k bits).bind fun y2 => (radomeref01_Less.f k a.f_D y2.f_D).bind fun y12 => some (y12)
theorem radomeref01_Fits.calls (k : Nat) {H : Hp} {L : Items} {a : radomeref01_Num} {bits : Int} {v0_a : Value} {r : Bool} (he : radomeref01_Fits.f k a bits = some r) (h0_a : Ro kI64 H v0_a a.f_D) : Ct Tryz.prog 146 ⟨[.agg ⟨[.bool a.f_Neg, v0_a]⟩, .int .i64 bits]⟩ H L (fun v H' L' => L = L' ∧ H = H' ∧ v = .bool r) := by
 refine ct_outs (O := radomeref01_Fits.out r) (fun _ _ h => h) ?_
 have hle : H.le H := .refl _
 unfold radomeref01_Fits.f at he
 refine ct_enter (args := [.agg ⟨[.bool a.f_Neg, v0_a]⟩, .int .i64 bits]) fn_146 rfl nt_146 rfl <| wR rfl <| w_a rfl (o_box (v := .agg ⟨[.bool a.f_Neg, v0_a]⟩) rfl rfl) ?_
 rintro _ _ _ ⟨b1, rfl, rfl, rfl⟩
 refine wA (.bool false) rfl rfl <| wE ?_
 obtain ⟨y2, hy3, he⟩ := bs he
 refine w_drawn (p := 5) (tl := [5, 6]) [[], [(0, some 5)], [], [(2, some 7)], [(3, some 8)]] [some 5, some 6, some 7, some 8, some 9] (fctF (.is (.pointer (some ⟨b1, 1, none⟩)) :: .is (v0_a) :: .is (.int .i64 bits) :: .of (radomeref01_Two.out y2) (radomeref01_Two.out_mono _) :: .ro kI64 (y2.f_D) :: [])) (fun m_ => some (b1, .cells ⟨[.bool a.f_Neg, v0_a]⟩ 37 (0, 0)) :: L) (fun _ => none) mixed (by kernel_rfl) (by kernel_rfl) rfl (fct_mono (by kernel_rfl)) ⟨(fun H' m_ hH hm_ hu_ => dn <| s_d (m_ 0) rfl (d_fld (o' := 1) Tryz.underlying37 rfl sz35 rfl rfl rfl) (by exact rfl) rfl), (by rintro H' m_ hH hm_ hu_ _ rfl; exact dn <| s_d (m_ 1) rfl (d_loado (v := v0_a) ty35 rfl .here rfl rfl rfl rfl) (by exact rfl) rfl), (fun H' m_ hH hm_ hu_ => dn <| s_d (m_ 2) rfl (d_move (v := .int .i64 bits) rfl) (by exact rfl) rfl), (by rintro H' m_ hH hm_ hu_ _ rfl; exact dn <| s_k (m_ 3) rfl (o_call co12 (vs := [.int .i64 bits]) rfl (radomeref01_Two.calls k hy3)) rfl (by rintro v_ H_ _ ⟨rfl, e_, h_⟩; exact ⟨rfl, e_, h_⟩)), (by rintro H' m_ hH hm_ hu_ _ ⟨v6, rfl, h7⟩; exact dn <| s_d (m_ 4) rfl (d_field (v := v6) Tryz.underlying37 rfl ty35 rfl rfl rfl rfl rfl) (by exact h7) rfl), trivial⟩ ?_
 intro H10 e11
 rintro _ _ rfl _ _ rfl _ _ rfl _ _ ⟨v6, rfl, h7⟩ v8 _ (h9 : Ro kI64 H10 v8 y2.f_D)
 obtain ⟨y12, hy13, he⟩ := bs he
 refine w_d rfl (call_d (o_call co69 (vs := [v0_a, v8]) rfl (radomeref01_Less.calls k hy13 ((h0_a.mono e11).src) h9.src))) <| wA (.bool y12) rfl rfl <| w_done ?_
 obtain rfl := sj he
 refine w_return fn_146 rs_146 (.tmp (v := .bool y12) rfl .nil) <| ⟨⟨[_], rfl⟩, hle.trans e11, rfl⟩
noncomputable def radomeref02_Fits.C : Code := (Tryz.f132.body).getD .skip
def radomeref02_Fits.out (r : Bool) (H : Hp) (v : Value) : Prop := v = .bool r
abbrev radomeref02_Fits.R (H0 : Hp) (L : Items) (r : Bool) := fR H0 L (radomeref02_Fits.out r)
structure radomeref02_Fits.Hs where
 l0 : (List radomeref01_Num) → Bool → Int → Option Bool
noncomputable def radomeref02_Fits.b0 (k : Nat) (h : radomeref02_Fits.Hs)  (l : List radomeref01_Num) (t2 : Bool) (i : Int) : Option Bool := if i < (l.length : Int) then (if (0 : Int) ≤ i ∧ i < (l.length : Int) then ((radomeref01_Fits.f k (rd l i) 4096).bind fun y7 => if (!y7) = true then (some (false)) else (h.l0 l t2 (w64 (i + 1)))) else none) else (some (true))
noncomputable def radomeref02_Fits.hs : Nat → radomeref02_Fits.Hs
 | 0 => ⟨fun _ _ _ => none⟩
 | k + 1 => ⟨fun x0 x1 x2 => radomeref02_Fits.b0 k (radomeref02_Fits.hs k) x0 x1 x2⟩
noncomputable def radomeref02_Fits.f (k : Nat) (l : List radomeref01_Num) : Option Bool := (fun h : radomeref02_Fits.Hs => h.l0 l false 0) (radomeref02_Fits.hs k)
noncomputable def radomeref02_Fits.Kl0 : List Item := .code (lopB (blkB (seqR (seqL (seqR radomeref02_Fits.C))))) :: .inLoop (lopB (blkB (seqR (seqL (seqR radomeref02_Fits.C))))) :: .inBlock 0 :: .code (seqR (seqR radomeref02_Fits.C)) :: []
structure radomeref02_Fits.OK (h : radomeref02_Fits.Hs) : Prop where
 l0 : ∀ {H0 H : Hp} {L : Items} {r : Bool} {jk_ : Nat → Value} {l : List radomeref01_Num} {t2 : Bool} {i : Int} {v_l : Value} (_ : H0.le H) (_he : h.l0 l t2 i = some r) (_h_l : Src k_radomeref01_Num H L v_l l), Wp Tryz.prog 132 16 radomeref02_Fits.Kl0 (upd (upd (upd jk_ 0 (v_l)) 2 (.bool t2)) 3 (.int .i64 i)) H (L) (radomeref02_Fits.R H0 L r)
theorem radomeref02_Fits.b0_ok {k : Nat} {h : radomeref02_Fits.Hs} (hh : radomeref02_Fits.OK h) {H0 H : Hp} {L : Items} {r : Bool} {jk_ : Nat → Value} {l : List radomeref01_Num} {t2 : Bool} {i : Int} {v_l : Value} (hle : H0.le H) (he : radomeref02_Fits.b0 k h l t2 i = some r) (h_l : Src k_radomeref01_Num H L v_l l) : Wp Tryz.prog 132 16 radomeref02_Fits.Kl0 (upd (upd (upd jk_ 0 (v_l)) 2 (.bool t2)) 3 (.int .i64 i)) H (L) (radomeref02_Fits.R H0 L r) := by
 unfold radomeref02_Fits.b0 at he
 unfold radomeref02_Fits.Kl0
 refine w_seq <| wR rfl <| wM (.int .i64 i) rfl rfl <| wM v_l rfl rfl <| w_d rfl (d_len Tryz.underlying185 rfl h_l) <| w_d rfl (d_lss rfl rfl) <| w_done ?_
 rcases its he with ⟨c1, he⟩ | ⟨c1, he⟩
 ·
  refine w_then rfl (dt c1) <| w_skip <| w_seq <| w_block <| wR rfl <| wM v_l rfl rfl <| wM (.int .i64 i) rfl rfl ?_
  obtain ⟨c2, he⟩ := rq he
  refine w_d rfl (d_index (sz := 2) Tryz.underlying185 sz37 rfl h_l rfl c2) ?_
  obtain ⟨_, l3, r4⟩ := el_of (kd := k_radomeref01_Num) h_l c2
  obtain ⟨v5, rfl, h6⟩ := k_radomeref01_Num_out r4
  refine w_d rfl (d_load (v := .agg ⟨[.bool ((rd l i).f_Neg), v5]⟩) (cs := [.bool ((rd l i).f_Neg), v5]) ty37 rfl rfl (by decide) l3 rfl) ?_
  obtain ⟨y7, hy8, he⟩ := bs he
  refine w_d rfl (call_d (o_call co146 (vs := [.agg ⟨[.bool ((rd l i).f_Neg), v5]⟩, .int .i64 4096]) rfl (radomeref01_Fits.calls k (a := (rd l i)) hy8 h6))) <| w_d rfl (d_not (b := y7) rfl) <| w_done ?_
  rcases its he with ⟨c11, he⟩ | ⟨c11, he⟩
  ·
   refine w_then rfl c11 <| wR rfl <| wA (.bool false) rfl rfl <| w_done ?_
   obtain rfl := sj he
   refine w_return fn_132 rs_132 (.tmp (v := .bool false) rfl .nil) <| ⟨⟨[], rfl⟩, hle, rfl⟩
  ·
   refine w_else rfl (Bool.eq_false_iff.2 c11) <| w_skip <| w_inBlock <| w_region rfl <| wM (.int .i64 i) rfl rfl <| w_d rfl (d_add (c := w64 (i + 1)) rfl rfl rfl) <| wA (.int .i64 (w64 (i + 1))) rfl rfl <| w_done <| w_inLoop <| w_sl 0 (v_l) rfl <| w_sl 2 (.bool t2) rfl <| w_sl 3 (.int .i64 (w64 (i + 1))) rfl <| hh.l0 hle he h_l
 ·
  refine w_else rfl (df c1) <| w_exit rfl <| wR rfl <| wA (.bool true) rfl rfl <| w_done ?_
  obtain rfl := sj he
  refine w_return fn_132 rs_132 (.tmp (v := .bool true) rfl .nil) <| ⟨⟨[], rfl⟩, hle, rfl⟩
theorem radomeref02_Fits.ok : ∀ k, radomeref02_Fits.OK (radomeref02_Fits.hs k)
 | 0 => ⟨(by intros; exact nomatch (show none = some _ from by assumption))⟩
 | k + 1 => ⟨radomeref02_Fits.b0_ok (k := k) (radomeref02_Fits.ok k)⟩
theorem radomeref02_Fits.calls (k : Nat) {H : Hp} {L : Items} {l : List radomeref01_Num} {v0_l : Value} {r : Bool} (he : radomeref02_Fits.f k l = some r) (h0_l : Src k_radomeref01_Num H L v0_l l) : Ct Tryz.prog 132 ⟨[v0_l]⟩ H L (fun v H' L' => L = L' ∧ H = H' ∧ v = .bool r) := by
 refine ct_outs (O := radomeref02_Fits.out r) (fun _ _ h => h) ?_
 have hle : H.le H := .refl _
 have hh := radomeref02_Fits.ok k
 unfold radomeref02_Fits.f at he
 refine ct_enter (args := [v0_l]) fn_132 rfl nt_132 rfl <| wR rfl <| wA (.bool false) rfl rfl <| wE <| wR rfl <| wA (.int .i64 0) rfl rfl <| w_done <| w_block <| w_loop ?_
 refine w_sl 0 (v0_l) rfl <| w_sl 2 (.bool false) rfl <| w_sl 3 (.int .i64 0) rfl <| hh.l0 hle he h0_l
noncomputable def radomeref01_Cmp.C : Code := (Tryz.f100.body).getD .skip
def radomeref01_Cmp.out (r : Int) (H : Hp) (v : Value) : Prop := v = .int .i64 r
noncomputable def radomeref01_Cmp.f (k : Nat) (a : radomeref01_Num) (b : radomeref01_Num) : Option Int := (radomeref01_Sub.f k a b).bind fun y3 => (radomeref01_Sign.f k y3).bind fun y9 => some (y9)
theorem radomeref01_Cmp.calls (k : Nat) {H : Hp} {L : Items} {a : radomeref01_Num} {b : radomeref01_Num} {v0_a : Value} {v1_b : Value} {r : Int} (he : radomeref01_Cmp.f k a b = some r) (h0_a : Ro kI64 H v0_a a.f_D) (h1_b : Ro kI64 H v1_b b.f_D) : Ct Tryz.prog 100 ⟨[.agg ⟨[.bool a.f_Neg, v0_a]⟩, .agg ⟨[.bool b.f_Neg, v1_b]⟩]⟩ H L (fun v H' L' => L = L' ∧ H = H' ∧ v = .int .i64 r) := by
 refine ct_outs (O := radomeref01_Cmp.out r) (fun _ _ h => h) ?_
 have hle : H.le H := .refl _
 unfold radomeref01_Cmp.f at he
 refine ct_enter (args := [.agg ⟨[.bool a.f_Neg, v0_a]⟩, .agg ⟨[.bool b.f_Neg, v1_b]⟩]) fn_100 rfl nt_100 rfl <| wR rfl <| w_a rfl (o_box (v := .agg ⟨[.bool a.f_Neg, v0_a]⟩) rfl rfl) ?_
 rintro _ _ _ ⟨b1, rfl, rfl, rfl⟩
 refine w_a rfl (o_box (v := .agg ⟨[.bool b.f_Neg, v1_b]⟩) rfl rfl) ?_
 rintro _ _ _ ⟨b2, rfl, rfl, rfl⟩
 refine wA (.int .i64 0) rfl rfl <| wQ rfl <| wL (.agg ⟨[.bool a.f_Neg, v0_a]⟩) ty37 rfl rfl (.there .here) rfl rfl <| wL (.agg ⟨[.bool b.f_Neg, v1_b]⟩) ty37 rfl rfl .here rfl rfl ?_
 obtain ⟨y3, hy4, he⟩ := bs he
 refine w_a rfl (o_call co14 (vs := [.agg ⟨[.bool a.f_Neg, v0_a]⟩, .agg ⟨[.bool b.f_Neg, v1_b]⟩]) rfl (radomeref01_Sub.calls k (a := a) (b := b) hy4 h0_a h1_b)) ?_
 rintro _ H5 _ ⟨rfl, e6, ⟨v7, rfl, h8⟩⟩
 obtain ⟨y9, hy10, he⟩ := bs he
 refine w_d rfl (call_d (o_call co62 (vs := [.agg ⟨[.bool y3.f_Neg, v7]⟩]) rfl (radomeref01_Sign.calls k (a := y3) hy10 h8))) <| wA (.int .i64 y9) rfl rfl <| w_done ?_
 obtain rfl := sj he
 refine w_return fn_100 rs_100 (.tmp (v := .int .i64 y9) rfl .nil) <| ⟨⟨[_, _], rfl⟩, hle.trans e6, rfl⟩
noncomputable def radomeref02_Cmp.C : Code := (Tryz.f108.body).getD .skip
def radomeref02_Cmp.out (r : Int × Int) (H : Hp) (v : Value) : Prop := v = .tuple ⟨[.int .i64 r.1, .int .i64 r.2]⟩
noncomputable def radomeref02_Cmp.f (k : Nat) (a : radomeref02_Ratio) (b : radomeref02_Ratio) : Option (Int × Int) := (radomeref01_Mul.f k a.f_N b.f_D).bind fun y3 => (radomeref01_Mul.f k b.f_N a.f_D).bind fun y9 => (radomeref02_Fits.f k [y3, y9]).bind fun y22 => if (!y22) = true then (some (0, 12)) else ((radomeref01_Cmp.f k y3 y9).bind fun y27 => some (y27, 0))
theorem radomeref02_Cmp.calls (k : Nat) {H : Hp} {L : Items} {a : radomeref02_Ratio} {b : radomeref02_Ratio} {v0_a : Value} {v1_a : Value} {v2_b : Value} {v3_b : Value} {r : Int × Int} (he : radomeref02_Cmp.f k a b = some r) (h0_a : Ro kI64 H v0_a a.f_N.f_D) (h1_a : Ro kI64 H v1_a a.f_D.f_D) (h2_b : Ro kI64 H v2_b b.f_N.f_D) (h3_b : Ro kI64 H v3_b b.f_D.f_D) : Ct Tryz.prog 108 ⟨[.agg ⟨[.bool a.f_N.f_Neg, v0_a, .bool a.f_D.f_Neg, v1_a]⟩, .agg ⟨[.bool b.f_N.f_Neg, v2_b, .bool b.f_D.f_Neg, v3_b]⟩]⟩ H L (fun v H' L' => L = L' ∧ H = H' ∧ v = .tuple ⟨[.int .i64 r.1, .int .i64 r.2]⟩) := by
 refine ct_outs (O := radomeref02_Cmp.out r) (fun _ _ h => h) ?_
 have hle : H.le H := .refl _
 unfold radomeref02_Cmp.f at he
 refine ct_enter (args := [.agg ⟨[.bool a.f_N.f_Neg, v0_a, .bool a.f_D.f_Neg, v1_a]⟩, .agg ⟨[.bool b.f_N.f_Neg, v2_b, .bool b.f_D.f_Neg, v3_b]⟩]) fn_108 rfl nt_108 rfl <| wR rfl <| w_a rfl (o_box (v := .agg ⟨[.bool a.f_N.f_Neg, v0_a, .bool a.f_D.f_Neg, v1_a]⟩) rfl rfl) ?_
 rintro _ _ _ ⟨b1, rfl, rfl, rfl⟩
 refine w_a rfl (o_box (v := .agg ⟨[.bool b.f_N.f_Neg, v2_b, .bool b.f_D.f_Neg, v3_b]⟩) rfl rfl) ?_
 rintro _ _ _ ⟨b2, rfl, rfl, rfl⟩
 refine wA (.int .i64 0) rfl rfl <| wA (.int .i64 0) rfl rfl <| wE ?_
 obtain ⟨y3, hy4, he⟩ := bs he
 obtain ⟨y9, hy10, he⟩ := bs he
 refine w_none (w_none (?_))
 refine w_drawn (p := 12) (tl := [12, 13]) [[], [(0, some 8)], [], [(2, some 10)], [(1, some 9), (3, some 11)], [], [(5, some 13)], [], [(7, some 15)], [(6, some 14), (8, some 16)], [], []] [some 8, some 9, some 10, some 11, some 12, some 13, some 14, some 15, some 16, some 17, some 6, some 7] (fctF (.is (.pointer (some ⟨b1, 0, none⟩)) :: .is (.agg ⟨[.bool a.f_N.f_Neg, v0_a]⟩) :: .is (.pointer (some ⟨b2, 2, none⟩)) :: .is (.agg ⟨[.bool b.f_D.f_Neg, v3_b]⟩) :: .of (radomeref01_Mul.out y3) (radomeref01_Mul.out_mono _) :: .is (.pointer (some ⟨b2, 0, none⟩)) :: .is (.agg ⟨[.bool b.f_N.f_Neg, v2_b]⟩) :: .is (.pointer (some ⟨b1, 2, none⟩)) :: .is (.agg ⟨[.bool a.f_D.f_Neg, v1_a]⟩) :: .of (radomeref01_Mul.out y9) (radomeref01_Mul.out_mono _) :: .box 37 [.bool false, .slice none 0 0] :: .box 37 [.bool false, .slice none 0 0] :: [])) (fun m_ => m_ 10 :: m_ 11 :: some (b2, .cells ⟨[.bool b.f_N.f_Neg, v2_b, .bool b.f_D.f_Neg, v3_b]⟩ 40 (0, 0)) :: some (b1, .cells ⟨[.bool a.f_N.f_Neg, v0_a, .bool a.f_D.f_Neg, v1_a]⟩ 40 (0, 0)) :: L) (fun _ => none) mixed (by kernel_rfl) (by kernel_rfl) rfl (fct_mono (by kernel_rfl)) ⟨(fun H' m_ hH hm_ hu_ => dn <| s_d (m_ 0) rfl (d_fld (o' := 0) Tryz.underlying40 rfl sz37 rfl rfl rfl) (by exact rfl) rfl), (by rintro H' m_ hH hm_ hu_ _ rfl; exact dn <| s_d (m_ 1) rfl (d_loado (v := .agg ⟨[.bool a.f_N.f_Neg, v0_a]⟩) ty37 rfl (.there (.there (.there .here))) rfl rfl rfl rfl) (by exact rfl) rfl), (fun H' m_ hH hm_ hu_ => dn <| s_d (m_ 2) rfl (d_fld (o' := 2) Tryz.underlying40 rfl sz37 rfl rfl rfl) (by exact rfl) rfl), (by rintro H' m_ hH hm_ hu_ _ rfl; exact dn <| s_d (m_ 3) rfl (d_loado (v := .agg ⟨[.bool b.f_D.f_Neg, v3_b]⟩) ty37 rfl (.there (.there .here)) rfl rfl rfl rfl) (by exact rfl) rfl), (by rintro H' m_ hH hm_ hu_ _ rfl _ rfl; exact dn <| s_k (m_ 4) rfl (o_call co15 (vs := [.agg ⟨[.bool a.f_N.f_Neg, v0_a]⟩, .agg ⟨[.bool b.f_D.f_Neg, v3_b]⟩]) rfl (radomeref01_Mul.calls k (a := a.f_N) (b := b.f_D) hy4 (h0_a.mono hH) (h3_b.mono hH))) rfl (by rintro v_ H_ _ ⟨rfl, e_, h_⟩; exact ⟨rfl, e_, h_⟩)), (fun H' m_ hH hm_ hu_ => dn <| s_d (m_ 5) rfl (d_fld (o' := 0) Tryz.underlying40 rfl sz37 rfl rfl rfl) (by exact rfl) rfl), (by rintro H' m_ hH hm_ hu_ _ rfl; exact dn <| s_d (m_ 6) rfl (d_loado (v := .agg ⟨[.bool b.f_N.f_Neg, v2_b]⟩) ty37 rfl (.there (.there .here)) rfl rfl rfl rfl) (by exact rfl) rfl), (fun H' m_ hH hm_ hu_ => dn <| s_d (m_ 7) rfl (d_fld (o' := 2) Tryz.underlying40 rfl sz37 rfl rfl rfl) (by exact rfl) rfl), (by rintro H' m_ hH hm_ hu_ _ rfl; exact dn <| s_d (m_ 8) rfl (d_loado (v := .agg ⟨[.bool a.f_D.f_Neg, v1_a]⟩) ty37 rfl (.there (.there (.there .here))) rfl rfl rfl rfl) (by exact rfl) rfl), (by rintro H' m_ hH hm_ hu_ _ rfl _ rfl; exact dn <| s_k (m_ 9) rfl (o_call co15 (vs := [.agg ⟨[.bool b.f_N.f_Neg, v2_b]⟩, .agg ⟨[.bool a.f_D.f_Neg, v1_a]⟩]) rfl (radomeref01_Mul.calls k (a := b.f_N) (b := a.f_D) hy10 (h2_b.mono hH) (h1_a.mono hH))) rfl (by rintro v_ H_ _ ⟨rfl, e_, h_⟩; exact ⟨rfl, e_, h_⟩)), (fun H' m_ hH hm_ hu_ => dn <| s_box hm_ rfl rfl (o_alloc zr37 rfl) rfl (fun _ => .here) (by exact fun b_ => ⟨b_, rfl, rfl⟩)), (fun H' m_ hH hm_ hu_ => dn <| s_box hm_ rfl rfl (o_alloc zr37 rfl) rfl (fun _ => (.there .here)) (by exact fun b_ => ⟨b_, rfl, rfl⟩)), trivial⟩ ?_
 intro H17 e18
 rintro _ _ rfl _ _ rfl _ _ rfl _ _ rfl _ _ ⟨v7, rfl, h8⟩ _ _ rfl _ _ rfl _ _ rfl _ _ rfl _ _ ⟨v13, rfl, h14⟩ _ _ ⟨b15, rfl, rfl⟩ _ _ ⟨b16, rfl, rfl⟩
 refine w_a0 rfl (o_store (v := .agg ⟨[.bool y3.f_Neg, v7]⟩) sz37 rfl rfl rfl rfl (oc rfl (oc (h8.one) oz)) .here u2) ?_
 rintro _ _ _ ⟨rfl, rfl, rfl⟩
 refine w_a0 rfl (o_store (v := .agg ⟨[.bool y9.f_Neg, v13]⟩) sz37 rfl rfl rfl rfl (oc rfl (oc (h14.one) oz)) (.there .here) u2) ?_
 rintro _ _ _ ⟨rfl, rfl, rfl⟩
 refine wE <| wR rfl <| wL (.agg ⟨[.bool y3.f_Neg, v7]⟩) ty37 rfl rfl .here rfl rfl <| wL (.agg ⟨[.bool y9.f_Neg, v13]⟩) ty37 rfl rfl (.there .here) rfl rfl <| w_a rfl (o_buildSlice' (kd := k_radomeref01_Num) (css := [[.bool y3.f_Neg, v7], [.bool y9.f_Neg, v13]]) (xs := [y3, y9]) (parts := [(0, .agg ⟨[.bool y3.f_Neg, v7]⟩), (1, .agg ⟨[.bool y9.f_Neg, v13]⟩)]) Tryz.underlying185 ti37 rfl ⟨_, _, rfl, rfl, ⟨_, _, rfl, rfl, rfl⟩⟩ ⟨(k_radomeref01_Num_in (x := y3) h8), ⟨(k_radomeref01_Num_in (x := y9) h14), trivial⟩⟩ rfl (by decide)) ?_
 rintro v19 _ _ ⟨i20, rfl, rfl, h21⟩
 obtain ⟨y22, hy23, he⟩ := bs he
 refine w_d rfl (call_d (o_call co132 (vs := [v19]) rfl (radomeref02_Fits.calls k hy23 (h21.src .here)))) <| w_d rfl (d_not (b := y22) rfl) <| w_done ?_
 rcases its he with ⟨c26, he⟩ | ⟨c26, he⟩
 ·
  refine w_then rfl c26 <| wR rfl <| wA (.int .i64 0) rfl rfl <| wA (.int .i64 12) rfl rfl <| w_done ?_
  obtain rfl := sj he
  refine w_return fn_108 rs_108 (.tmp (v := .int .i64 0) rfl (.tmp (v := .int .i64 12) rfl .nil)) <| ⟨⟨[_, _, _, _, _], rfl⟩, hle.trans e18, rfl⟩
 ·
  refine w_else rfl (Bool.eq_false_iff.2 c26) <| w_skip <| wR rfl <| wL (.agg ⟨[.bool y3.f_Neg, v7]⟩) ty37 rfl rfl (.there .here) rfl rfl <| wL (.agg ⟨[.bool y9.f_Neg, v13]⟩) ty37 rfl rfl (.there (.there .here)) rfl rfl ?_
  obtain ⟨y27, hy28, he⟩ := bs he
  refine w_d rfl (call_d (o_call co100 (vs := [.agg ⟨[.bool y3.f_Neg, v7]⟩, .agg ⟨[.bool y9.f_Neg, v13]⟩]) rfl (radomeref01_Cmp.calls k (a := y3) (b := y9) hy28 h8 h14))) <| wA (.int .i64 y27) rfl rfl <| wA (.int .i64 0) rfl rfl <| w_done ?_
  obtain rfl := sj he
  refine w_return fn_108 rs_108 (.tmp (v := .int .i64 y27) rfl (.tmp (v := .int .i64 0) rfl .nil)) <| ⟨⟨[_, _, _, _, _], rfl⟩, hle.trans e18, rfl⟩
noncomputable def radomeref34_less.C : Code := (Tryz.f86.body).getD .skip
def radomeref34_less.out (r : Bool) (H : Hp) (v : Value) : Prop := v = .bool r
noncomputable def radomeref34_less.f (k : Nat) (a : radomeref02_Ratio) (b : radomeref02_Ratio) : Option Bool := (radomeref02_Cmp.f k a b).bind fun y3 => some (decide (y3.1 < 0))
theorem radomeref34_less.calls (k : Nat) {H : Hp} {L : Items} {a : radomeref02_Ratio} {b : radomeref02_Ratio} {v0_a : Value} {v1_a : Value} {v2_b : Value} {v3_b : Value} {r : Bool} (he : radomeref34_less.f k a b = some r) (h0_a : Ro kI64 H v0_a a.f_N.f_D) (h1_a : Ro kI64 H v1_a a.f_D.f_D) (h2_b : Ro kI64 H v2_b b.f_N.f_D) (h3_b : Ro kI64 H v3_b b.f_D.f_D) : Ct Tryz.prog 86 ⟨[.agg ⟨[.bool a.f_N.f_Neg, v0_a, .bool a.f_D.f_Neg, v1_a]⟩, .agg ⟨[.bool b.f_N.f_Neg, v2_b, .bool b.f_D.f_Neg, v3_b]⟩]⟩ H L (fun v H' L' => L = L' ∧ H = H' ∧ v = .bool r) := by
 refine ct_outs (O := radomeref34_less.out r) (fun _ _ h => h) ?_
 have hle : H.le H := .refl _
 unfold radomeref34_less.f at he
 refine ct_enter (args := [.agg ⟨[.bool a.f_N.f_Neg, v0_a, .bool a.f_D.f_Neg, v1_a]⟩, .agg ⟨[.bool b.f_N.f_Neg, v2_b, .bool b.f_D.f_Neg, v3_b]⟩]) fn_86 rfl nt_86 rfl <| wR rfl <| w_a rfl (o_box (v := .agg ⟨[.bool a.f_N.f_Neg, v0_a, .bool a.f_D.f_Neg, v1_a]⟩) rfl rfl) ?_
 rintro _ _ _ ⟨b1, rfl, rfl, rfl⟩
 refine w_a rfl (o_box (v := .agg ⟨[.bool b.f_N.f_Neg, v2_b, .bool b.f_D.f_Neg, v3_b]⟩) rfl rfl) ?_
 rintro _ _ _ ⟨b2, rfl, rfl, rfl⟩
 refine wA (.bool false) rfl rfl <| wQ rfl <| wL (.agg ⟨[.bool a.f_N.f_Neg, v0_a, .bool a.f_D.f_Neg, v1_a]⟩) ty40 rfl rfl (.there .here) rfl rfl <| wL (.agg ⟨[.bool b.f_N.f_Neg, v2_b, .bool b.f_D.f_Neg, v3_b]⟩) ty40 rfl rfl .here rfl rfl ?_
 obtain ⟨y3, hy4, he⟩ := bs he
 refine w_d rfl (call_d (o_call co108 (vs := [.agg ⟨[.bool a.f_N.f_Neg, v0_a, .bool a.f_D.f_Neg, v1_a]⟩, .agg ⟨[.bool b.f_N.f_Neg, v2_b, .bool b.f_D.f_Neg, v3_b]⟩]) rfl (radomeref02_Cmp.calls k (a := a) (b := b) hy4 h0_a h1_a h2_b h3_b))) <| wM (.tuple ⟨[.int .i64 y3.1, .int .i64 y3.2]⟩) rfl rfl <| w_d rfl (d_ext (vs := [.int .i64 y3.1, .int .i64 y3.2]) rfl rfl) <| w_d rfl (d_ext (vs := [.int .i64 y3.1, .int .i64 y3.2]) rfl rfl) <| wA (.int .i64 y3.1) rfl rfl <| wA (.int .i64 y3.2) rfl rfl <| wQ rfl <| wM (.int .i64 y3.1) rfl rfl <| w_d rfl (d_lss rfl rfl) <| wA (.bool (decide (y3.1 < 0))) rfl rfl ?_
 refine w_done ?_
 obtain rfl := sj he
 refine w_return fn_86 rs_86 (.tmp (v := .bool (decide (y3.1 < 0))) rfl .nil) <| ⟨⟨[_, _], rfl⟩, hle, rfl⟩
noncomputable def radomeref34_May.C : Code := (Tryz.f32.body).getD .skip
def radomeref34_May.out (r : Bool) (H : Hp) (v : Value) : Prop := v = .bool r
noncomputable def radomeref34_May.f (k : Nat) (a : radomeref34_Span) : Option Bool := (radomeref34_less.f k a.f_High a.f_Low).bind fun y2 => some (!y2)
theorem radomeref34_May.calls (k : Nat) {H : Hp} {L : Items} {a : radomeref34_Span} {v0_a : Value} {v1_a : Value} {v2_a : Value} {v3_a : Value} {r : Bool} (he : radomeref34_May.f k a = some r) (h0_a : Ro kI64 H v0_a a.f_Low.f_N.f_D) (h1_a : Ro kI64 H v1_a a.f_Low.f_D.f_D) (h2_a : Ro kI64 H v2_a a.f_High.f_N.f_D) (h3_a : Ro kI64 H v3_a a.f_High.f_D.f_D) : Ct Tryz.prog 32 ⟨[.agg ⟨[.bool a.f_Low.f_N.f_Neg, v0_a, .bool a.f_Low.f_D.f_Neg, v1_a, .bool a.f_High.f_N.f_Neg, v2_a, .bool a.f_High.f_D.f_Neg, v3_a]⟩]⟩ H L (fun v H' L' => L = L' ∧ H = H' ∧ v = .bool r) := by
 refine ct_outs (O := radomeref34_May.out r) (fun _ _ h => h) ?_
 have hle : H.le H := .refl _
 unfold radomeref34_May.f at he
 refine ct_enter (args := [.agg ⟨[.bool a.f_Low.f_N.f_Neg, v0_a, .bool a.f_Low.f_D.f_Neg, v1_a, .bool a.f_High.f_N.f_Neg, v2_a, .bool a.f_High.f_D.f_Neg, v3_a]⟩]) fn_32 rfl nt_32 rfl <| wR rfl <| w_a rfl (o_box (v := .agg ⟨[.bool a.f_Low.f_N.f_Neg, v0_a, .bool a.f_Low.f_D.f_Neg, v1_a, .bool a.f_High.f_N.f_Neg, v2_a, .bool a.f_High.f_D.f_Neg, v3_a]⟩) rfl rfl) ?_
 rintro _ _ _ ⟨b1, rfl, rfl, rfl⟩
 refine wA (.bool false) rfl rfl <| wQ rfl <| w_d rfl (d_fld (o' := 4) Tryz.underlying45 rfl sz40 rfl rfl rfl) <| wL (.agg ⟨[.bool a.f_High.f_N.f_Neg, v2_a, .bool a.f_High.f_D.f_Neg, v3_a]⟩) ty40 rfl rfl .here rfl rfl <| w_d rfl (d_fld (o' := 0) Tryz.underlying45 rfl sz40 rfl rfl rfl) <| wL (.agg ⟨[.bool a.f_Low.f_N.f_Neg, v0_a, .bool a.f_Low.f_D.f_Neg, v1_a]⟩) ty40 rfl rfl .here rfl rfl ?_
 obtain ⟨y2, hy3, he⟩ := bs he
 refine w_d rfl (call_d (o_call co86 (vs := [.agg ⟨[.bool a.f_High.f_N.f_Neg, v2_a, .bool a.f_High.f_D.f_Neg, v3_a]⟩, .agg ⟨[.bool a.f_Low.f_N.f_Neg, v0_a, .bool a.f_Low.f_D.f_Neg, v1_a]⟩]) rfl (radomeref34_less.calls k (a := a.f_High) (b := a.f_Low) hy3 h2_a h3_a h0_a h1_a))) <| w_d rfl (d_not (b := y2) rfl) <| wA (.bool (!y2)) rfl rfl <| w_done ?_
 obtain rfl := sj he
 refine w_return fn_32 rs_32 (.tmp (v := .bool (!y2)) rfl .nil) <| ⟨⟨[_], rfl⟩, hle, rfl⟩
noncomputable def radomelaw34_spanOf.C : Code := (Tryz.f22.body).getD .skip
def radomelaw34_spanOf.out (r : radomeref34_Span) (H : Hp) (v : Value) : Prop := ∃ v0, ∃ v1, ∃ v2, ∃ v3, v = .agg ⟨[.bool r.f_Low.f_N.f_Neg, v0, .bool r.f_Low.f_D.f_Neg, v1, .bool r.f_High.f_N.f_Neg, v2, .bool r.f_High.f_D.f_Neg, v3]⟩ ∧ Ro kI64 H v0 r.f_Low.f_N.f_D ∧ Ro kI64 H v1 r.f_Low.f_D.f_D ∧ Ro kI64 H v2 r.f_High.f_N.f_D ∧ Ro kI64 H v3 r.f_High.f_D.f_D
theorem radomelaw34_spanOf.out_mono (r : radomeref34_Span) {H H' : Hp} {v : Value} (hle : H.le H') (h : radomelaw34_spanOf.out r H v) : radomelaw34_spanOf.out r H' v := by
 obtain ⟨v0, v1, v2, v3, rfl, h0, h1, h2, h3⟩ := h; exact ⟨v0, v1, v2, v3, rfl, h0.mono hle, h1.mono hle, h2.mono hle, h3.mono hle⟩
structure radomelaw34_spanOf.Hs where
noncomputable def radomelaw34_spanOf.hs : Nat → radomelaw34_spanOf.Hs
 | 0 => ⟨⟩
 | k + 1 => ⟨⟩
noncomputable def radomelaw34_spanOf.f (k : Nat) (e_ : radomelaw34_Ends) (order : Bool) : Option radomeref34_Span := (fun h : radomelaw34_spanOf.Hs => if (0 : Int) ≤ 0 ∧ (0 : Int) ≤ min (e_.f_L.e0.length : Int) 15 ∧ min (e_.f_L.e0.length : Int) 15 ≤ (e_.f_L.e0.length : Int) then (if (0 : Int) ≤ 0 ∧ (0 : Int) ≤ min (e_.f_L.e1.length : Int) 15 ∧ min (e_.f_L.e1.length : Int) 15 ≤ (e_.f_L.e1.length : Int) then (if (0 : Int) ≤ 0 ∧ (0 : Int) ≤ min (e_.f_L.e2.length : Int) 15 ∧ min (e_.f_L.e2.length : Int) 15 ≤ (e_.f_L.e2.length : Int) then (if (0 : Int) ≤ 0 ∧ (0 : Int) ≤ min (e_.f_L.e3.length : Int) 15 ∧ min (e_.f_L.e3.length : Int) 15 ≤ (e_.f_L.e3.length : Int) then ((radomelaw34_fraction.f k (cut e_.f_L.e0 0 (min (e_.f_L.e0.length : Int) 15)) (cut e_.f_L.e1 0 (min (e_.f_L.e1.length : Int) 15)) e_.f_Neg.e0).bind fun y24 => (radomelaw34_fraction.f k (cut e_.f_L.e2 0 (min (e_.f_L.e2.length : Int) 15)) (cut e_.f_L.e3 0 (min (e_.f_L.e3.length : Int) 15)) e_.f_Neg.e1).bind fun y32 => (gd order (radomeref34_May.f k (⟨y24, y32⟩ : radomeref34_Span)) (false)).bind fun y47 => if (order && (!y47)) = true then (some ((⟨y32, y24⟩ : radomeref34_Span))) else (some ((⟨y24, y32⟩ : radomeref34_Span)))) else none) else none) else none) else none) (radomelaw34_spanOf.hs k)
structure radomelaw34_spanOf.OK (h : radomelaw34_spanOf.Hs) : Prop where
theorem radomelaw34_spanOf.ok : ∀ k, radomelaw34_spanOf.OK (radomelaw34_spanOf.hs k)
 | 0 => ⟨⟩
 | k + 1 => ⟨⟩
theorem radomelaw34_spanOf.calls (k : Nat) {H : Hp} {L : Items} {e_ : radomelaw34_Ends} {order : Bool} {v0_e_ : Value} {v1_e_ : Value} {v2_e_ : Value} {v3_e_ : Value} {r : radomeref34_Span} (he : radomelaw34_spanOf.f k e_ order = some r) (h0_e_ : Ro kU8 H v0_e_ e_.f_L.e0) (h1_e_ : Ro kU8 H v1_e_ e_.f_L.e1) (h2_e_ : Ro kU8 H v2_e_ e_.f_L.e2) (h3_e_ : Ro kU8 H v3_e_ e_.f_L.e3) : Ct Tryz.prog 22 ⟨[.agg ⟨[v0_e_, v1_e_, v2_e_, v3_e_, .bool e_.f_Neg.e0, .bool e_.f_Neg.e1]⟩, .bool order]⟩ H L (cR H L (radomelaw34_spanOf.out r)) := by
 refine ct_out (O := radomelaw34_spanOf.out r) ?_
 have hle : H.le H := .refl _
 have hh := radomelaw34_spanOf.ok k
 unfold radomelaw34_spanOf.f at he
 refine ct_enter (args := [.agg ⟨[v0_e_, v1_e_, v2_e_, v3_e_, .bool e_.f_Neg.e0, .bool e_.f_Neg.e1]⟩, .bool order]) fn_22 rfl nt_22 rfl <| wR rfl <| w_a rfl (o_box (v := .agg ⟨[v0_e_, v1_e_, v2_e_, v3_e_, .bool e_.f_Neg.e0, .bool e_.f_Neg.e1]⟩) rfl rfl) ?_
 rintro _ _ _ ⟨b1, rfl, rfl, rfl⟩
 refine w_a rfl (o_alloc zr45 rfl) ?_
 rintro _ _ _ ⟨b2, rfl, rfl, rfl⟩
 refine wQ rfl <| w_a rfl (o_alloc zr53 rfl) ?_
 rintro _ _ _ ⟨b3, rfl, rfl, rfl⟩
 refine wE <| wR rfl <| wA (.int .i64 0) rfl rfl <| w_done <| w_block <| w_loop <| w_seq <| wR rfl <| wM (.int .i64 0) rfl rfl ?_
 refine w_d rfl (d_lss rfl rfl) <| w_done <| w_then rfl rfl <| w_skip <| w_seq <| w_block ?_
 obtain ⟨c4, he⟩ := rq he
 refine w_drawn (p := 12) (tl := [12, 13]) [[], [], [], [(1, some 15), (2, some 16)], [(3, some 17)], [], [], [(5, some 19), (6, some 20)], [(7, some 21)], [(8, some 22)], [(9, some 23)], [(4, some 18), (10, some 24)]] [some 14, some 15, some 16, some 17, some 18, some 19, some 20, some 21, some 22, some 23, some 24, some 25] (fctF (.is (.int .i64 0) :: .is (.int .i64 0) :: .is (.pointer (some ⟨b1, 0, none⟩)) :: .is (.pointer (some ⟨b1, 0, none⟩)) :: .is (v0_e_) :: .is (.int .i64 0) :: .is (.pointer (some ⟨b1, 0, none⟩)) :: .is (.pointer (some ⟨b1, 0, none⟩)) :: .is (v0_e_) :: .is (.int .i64 (e_.f_L.e0.length : Int)) :: .is (.int .i64 (min (e_.f_L.e0.length : Int) 15)) :: .ro kU8 (cut e_.f_L.e0 0 (min (e_.f_L.e0.length : Int) 15)) :: [])) (fun m_ => some (b3, .cells ⟨[.slice none 0 0, .slice none 0 0, .slice none 0 0, .slice none 0 0]⟩ 53 (0, 0)) :: some (b2, .cells ⟨[.bool false, .slice none 0 0, .bool false, .slice none 0 0, .bool false, .slice none 0 0, .bool false, .slice none 0 0]⟩ 45 (0, 0)) :: some (b1, .cells ⟨[v0_e_, v1_e_, v2_e_, v3_e_, .bool e_.f_Neg.e0, .bool e_.f_Neg.e1]⟩ 56 (0, 0)) :: L) (fun _ => none) mixed (by kernel_rfl) (by kernel_rfl) rfl (fct_mono (by kernel_rfl)) ⟨(fun H' m_ hH hm_ hu_ => dn <| s_d (m_ 0) rfl (d_move (v := .int .i64 0) rfl) (by exact rfl) rfl), (fun H' m_ hH hm_ hu_ => dn <| s_d (m_ 1) rfl (d_move (v := .int .i64 0) rfl) (by exact rfl) rfl), (fun H' m_ hH hm_ hu_ => dn <| s_d (m_ 2) rfl (d_fld (o' := 0) Tryz.underlying56 rfl sz53 rfl rfl rfl) (by exact rfl) rfl), (by rintro H' m_ hH hm_ hu_ _ rfl _ rfl; exact dn <| s_d (m_ 3) rfl (d_idxArr (o' := 0) Tryz.underlying53 sz52 rfl rfl (by decide) rfl) (by exact rfl) rfl), (by rintro H' m_ hH hm_ hu_ _ rfl; exact dn <| s_d (m_ 4) rfl (d_loado (v := v0_e_) ty52 rfl (.there (.there .here)) rfl rfl rfl rfl) (by exact rfl) rfl), (fun H' m_ hH hm_ hu_ => dn <| s_d (m_ 5) rfl (d_move (v := .int .i64 0) rfl) (by exact rfl) rfl), (fun H' m_ hH hm_ hu_ => dn <| s_d (m_ 6) rfl (d_fld (o' := 0) Tryz.underlying56 rfl sz53 rfl rfl rfl) (by exact rfl) rfl), (by rintro H' m_ hH hm_ hu_ _ rfl _ rfl; exact dn <| s_d (m_ 7) rfl (d_idxArr (o' := 0) Tryz.underlying53 sz52 rfl rfl (by decide) rfl) (by exact rfl) rfl), (by rintro H' m_ hH hm_ hu_ _ rfl; exact dn <| s_d (m_ 8) rfl (d_loado (v := v0_e_) ty52 rfl (.there (.there .here)) rfl rfl rfl rfl) (by exact rfl) rfl), (by rintro H' m_ hH hm_ hu_ _ rfl; exact dn <| s_d (m_ 9) rfl (d_len Tryz.underlying52 rfl (h0_e_.mono hH).src) (by exact rfl) rfl), (by rintro H' m_ hH hm_ hu_ _ rfl; exact dn <| s_d (m_ 10) rfl (d_min rfl rfl) (by exact rfl) rfl), (by rintro H' m_ hH hm_ hu_ _ rfl _ rfl; exact dn <| s_k (m_ 11) rfl (o_cut (kd := kU8) Tryz.underlying52 sz5 rfl (h0_e_.mono hH) (.inl ⟨rfl, rfl⟩) (.inr ⟨_, _, rfl, rfl⟩) c4) rfl (by rintro v_ _ _ ⟨h_, rfl, rfl⟩; exact ⟨rfl, .refl _, h_⟩)), trivial⟩ ?_
 intro H7 e8
 rintro _ _ rfl _ _ rfl _ _ rfl _ _ rfl _ _ rfl _ _ rfl _ _ rfl _ _ rfl _ _ rfl _ _ rfl _ _ rfl v5 _ (h6 : Ro kU8 H7 v5 (cut e_.f_L.e0 0 (min (e_.f_L.e0.length : Int) 15)))
 refine w_d rfl (d_idxArr (o' := 0) Tryz.underlying53 sz52 rfl rfl (by decide) rfl) <| w_a0 rfl (o_store (v := v5) sz52 rfl rfl h6.cells rfl (oc (h6.one) oz) .here u1) ?_
 rintro _ _ _ ⟨rfl, rfl, rfl⟩
 refine w_done <| w_inBlock <| w_region rfl <| wM (.int .i64 0) rfl rfl <| w_d rfl (d_add (c := 1) rfl rfl (by decide)) <| wA (.int .i64 1) rfl rfl <| w_done <| w_inLoop <| w_seq <| wR rfl <| wM (.int .i64 1) rfl rfl ?_
 refine w_d rfl (d_lss rfl rfl) <| w_done <| w_then rfl rfl <| w_skip <| w_seq <| w_block ?_
 obtain ⟨c9, he⟩ := rq he
 refine w_drawn (p := 12) (tl := [12, 13]) [[], [], [], [(1, some 15), (2, some 16)], [(3, some 17)], [], [], [(5, some 19), (6, some 20)], [(7, some 21)], [(8, some 22)], [(9, some 23)], [(4, some 18), (10, some 24)]] [some 14, some 15, some 16, some 17, some 18, some 19, some 20, some 21, some 22, some 23, some 24, some 25] (fctF (.is (.int .i64 1) :: .is (.int .i64 1) :: .is (.pointer (some ⟨b1, 0, none⟩)) :: .is (.pointer (some ⟨b1, 1, none⟩)) :: .is (v1_e_) :: .is (.int .i64 1) :: .is (.pointer (some ⟨b1, 0, none⟩)) :: .is (.pointer (some ⟨b1, 1, none⟩)) :: .is (v1_e_) :: .is (.int .i64 (e_.f_L.e1.length : Int)) :: .is (.int .i64 (min (e_.f_L.e1.length : Int) 15)) :: .ro kU8 (cut e_.f_L.e1 0 (min (e_.f_L.e1.length : Int) 15)) :: [])) (fun m_ => some (b3, .cells ⟨[v5, .slice none 0 0, .slice none 0 0, .slice none 0 0]⟩ 53 (0, 0)) :: some (b2, .cells ⟨[.bool false, .slice none 0 0, .bool false, .slice none 0 0, .bool false, .slice none 0 0, .bool false, .slice none 0 0]⟩ 45 (0, 0)) :: some (b1, .cells ⟨[v0_e_, v1_e_, v2_e_, v3_e_, .bool e_.f_Neg.e0, .bool e_.f_Neg.e1]⟩ 56 (0, 0)) :: L) (fun _ => none) mixed (by kernel_rfl) (by kernel_rfl) rfl (fct_mono (by kernel_rfl)) ⟨(fun H' m_ hH hm_ hu_ => dn <| s_d (m_ 0) rfl (d_move (v := .int .i64 1) rfl) (by exact rfl) rfl), (fun H' m_ hH hm_ hu_ => dn <| s_d (m_ 1) rfl (d_move (v := .int .i64 1) rfl) (by exact rfl) rfl), (fun H' m_ hH hm_ hu_ => dn <| s_d (m_ 2) rfl (d_fld (o' := 0) Tryz.underlying56 rfl sz53 rfl rfl rfl) (by exact rfl) rfl), (by rintro H' m_ hH hm_ hu_ _ rfl _ rfl; exact dn <| s_d (m_ 3) rfl (d_idxArr (o' := 1) Tryz.underlying53 sz52 rfl rfl (by decide) rfl) (by exact rfl) rfl), (by rintro H' m_ hH hm_ hu_ _ rfl; exact dn <| s_d (m_ 4) rfl (d_loado (v := v1_e_) ty52 rfl (.there (.there .here)) rfl rfl rfl rfl) (by exact rfl) rfl), (fun H' m_ hH hm_ hu_ => dn <| s_d (m_ 5) rfl (d_move (v := .int .i64 1) rfl) (by exact rfl) rfl), (fun H' m_ hH hm_ hu_ => dn <| s_d (m_ 6) rfl (d_fld (o' := 0) Tryz.underlying56 rfl sz53 rfl rfl rfl) (by exact rfl) rfl), (by rintro H' m_ hH hm_ hu_ _ rfl _ rfl; exact dn <| s_d (m_ 7) rfl (d_idxArr (o' := 1) Tryz.underlying53 sz52 rfl rfl (by decide) rfl) (by exact rfl) rfl), (by rintro H' m_ hH hm_ hu_ _ rfl; exact dn <| s_d (m_ 8) rfl (d_loado (v := v1_e_) ty52 rfl (.there (.there .here)) rfl rfl rfl rfl) (by exact rfl) rfl), (by rintro H' m_ hH hm_ hu_ _ rfl; exact dn <| s_d (m_ 9) rfl (d_len Tryz.underlying52 rfl (h1_e_.mono (e8.trans hH)).src) (by exact rfl) rfl), (by rintro H' m_ hH hm_ hu_ _ rfl; exact dn <| s_d (m_ 10) rfl (d_min rfl rfl) (by exact rfl) rfl), (by rintro H' m_ hH hm_ hu_ _ rfl _ rfl; exact dn <| s_k (m_ 11) rfl (o_cut (kd := kU8) Tryz.underlying52 sz5 rfl (h1_e_.mono (e8.trans hH)) (.inl ⟨rfl, rfl⟩) (.inr ⟨_, _, rfl, rfl⟩) c9) rfl (by rintro v_ _ _ ⟨h_, rfl, rfl⟩; exact ⟨rfl, .refl _, h_⟩)), trivial⟩ ?_
 intro H12 e13
 rintro _ _ rfl _ _ rfl _ _ rfl _ _ rfl _ _ rfl _ _ rfl _ _ rfl _ _ rfl _ _ rfl _ _ rfl _ _ rfl v10 _ (h11 : Ro kU8 H12 v10 (cut e_.f_L.e1 0 (min (e_.f_L.e1.length : Int) 15)))
 refine w_d rfl (d_idxArr (o' := 1) Tryz.underlying53 sz52 rfl rfl (by decide) rfl) <| w_a0 rfl (o_store (v := v10) sz52 rfl rfl h11.cells rfl (oc (h11.one) oz) .here (.there u1)) ?_
 rintro _ _ _ ⟨rfl, rfl, rfl⟩
 refine w_done <| w_inBlock <| w_region rfl <| wM (.int .i64 1) rfl rfl <| w_d rfl (d_add (c := 2) rfl rfl (by decide)) <| wA (.int .i64 2) rfl rfl <| w_done <| w_inLoop <| w_seq <| wR rfl <| wM (.int .i64 2) rfl rfl ?_
 refine w_d rfl (d_lss rfl rfl) <| w_done <| w_then rfl rfl <| w_skip <| w_seq <| w_block ?_
 obtain ⟨c14, he⟩ := rq he
 refine w_drawn (p := 12) (tl := [12, 13]) [[], [], [], [(1, some 15), (2, some 16)], [(3, some 17)], [], [], [(5, some 19), (6, some 20)], [(7, some 21)], [(8, some 22)], [(9, some 23)], [(4, some 18), (10, some 24)]] [some 14, some 15, some 16, some 17, some 18, some 19, some 20, some 21, some 22, some 23, some 24, some 25] (fctF (.is (.int .i64 2) :: .is (.int .i64 2) :: .is (.pointer (some ⟨b1, 0, none⟩)) :: .is (.pointer (some ⟨b1, 2, none⟩)) :: .is (v2_e_) :: .is (.int .i64 2) :: .is (.pointer (some ⟨b1, 0, none⟩)) :: .is (.pointer (some ⟨b1, 2, none⟩)) :: .is (v2_e_) :: .is (.int .i64 (e_.f_L.e2.length : Int)) :: .is (.int .i64 (min (e_.f_L.e2.length : Int) 15)) :: .ro kU8 (cut e_.f_L.e2 0 (min (e_.f_L.e2.length : Int) 15)) :: [])) (fun m_ => some (b3, .cells ⟨[v5, v10, .slice none 0 0, .slice none 0 0]⟩ 53 (0, 0)) :: some (b2, .cells ⟨[.bool false, .slice none 0 0, .bool false, .slice none 0 0, .bool false, .slice none 0 0, .bool false, .slice none 0 0]⟩ 45 (0, 0)) :: some (b1, .cells ⟨[v0_e_, v1_e_, v2_e_, v3_e_, .bool e_.f_Neg.e0, .bool e_.f_Neg.e1]⟩ 56 (0, 0)) :: L) (fun _ => none) mixed (by kernel_rfl) (by kernel_rfl) rfl (fct_mono (by kernel_rfl)) ⟨(fun H' m_ hH hm_ hu_ => dn <| s_d (m_ 0) rfl (d_move (v := .int .i64 2) rfl) (by exact rfl) rfl), (fun H' m_ hH hm_ hu_ => dn <| s_d (m_ 1) rfl (d_move (v := .int .i64 2) rfl) (by exact rfl) rfl), (fun H' m_ hH hm_ hu_ => dn <| s_d (m_ 2) rfl (d_fld (o' := 0) Tryz.underlying56 rfl sz53 rfl rfl rfl) (by exact rfl) rfl), (by rintro H' m_ hH hm_ hu_ _ rfl _ rfl; exact dn <| s_d (m_ 3) rfl (d_idxArr (o' := 2) Tryz.underlying53 sz52 rfl rfl (by decide) rfl) (by exact rfl) rfl), (by rintro H' m_ hH hm_ hu_ _ rfl; exact dn <| s_d (m_ 4) rfl (d_loado (v := v2_e_) ty52 rfl (.there (.there .here)) rfl rfl rfl rfl) (by exact rfl) rfl), (fun H' m_ hH hm_ hu_ => dn <| s_d (m_ 5) rfl (d_move (v := .int .i64 2) rfl) (by exact rfl) rfl), (fun H' m_ hH hm_ hu_ => dn <| s_d (m_ 6) rfl (d_fld (o' := 0) Tryz.underlying56 rfl sz53 rfl rfl rfl) (by exact rfl) rfl), (by rintro H' m_ hH hm_ hu_ _ rfl _ rfl; exact dn <| s_d (m_ 7) rfl (d_idxArr (o' := 2) Tryz.underlying53 sz52 rfl rfl (by decide) rfl) (by exact rfl) rfl), (by rintro H' m_ hH hm_ hu_ _ rfl; exact dn <| s_d (m_ 8) rfl (d_loado (v := v2_e_) ty52 rfl (.there (.there .here)) rfl rfl rfl rfl) (by exact rfl) rfl), (by rintro H' m_ hH hm_ hu_ _ rfl; exact dn <| s_d (m_ 9) rfl (d_len Tryz.underlying52 rfl (h2_e_.mono ((e8.trans e13).trans hH)).src) (by exact rfl) rfl), (by rintro H' m_ hH hm_ hu_ _ rfl; exact dn <| s_d (m_ 10) rfl (d_min rfl rfl) (by exact rfl) rfl), (by rintro H' m_ hH hm_ hu_ _ rfl _ rfl; exact dn <| s_k (m_ 11) rfl (o_cut (kd := kU8) Tryz.underlying52 sz5 rfl (h2_e_.mono ((e8.trans e13).trans hH)) (.inl ⟨rfl, rfl⟩) (.inr ⟨_, _, rfl, rfl⟩) c14) rfl (by rintro v_ _ _ ⟨h_, rfl, rfl⟩; exact ⟨rfl, .refl _, h_⟩)), trivial⟩ ?_
 intro H17 e18
 rintro _ _ rfl _ _ rfl _ _ rfl _ _ rfl _ _ rfl _ _ rfl _ _ rfl _ _ rfl _ _ rfl _ _ rfl _ _ rfl v15 _ (h16 : Ro kU8 H17 v15 (cut e_.f_L.e2 0 (min (e_.f_L.e2.length : Int) 15)))
 refine w_d rfl (d_idxArr (o' := 2) Tryz.underlying53 sz52 rfl rfl (by decide) rfl) <| w_a0 rfl (o_store (v := v15) sz52 rfl rfl h16.cells rfl (oc (h16.one) oz) .here (.there (.there u1))) ?_
 rintro _ _ _ ⟨rfl, rfl, rfl⟩
 refine w_done <| w_inBlock <| w_region rfl <| wM (.int .i64 2) rfl rfl <| w_d rfl (d_add (c := 3) rfl rfl (by decide)) <| wA (.int .i64 3) rfl rfl <| w_done <| w_inLoop <| w_seq <| wR rfl <| wM (.int .i64 3) rfl rfl ?_
 refine w_d rfl (d_lss rfl rfl) <| w_done <| w_then rfl rfl <| w_skip <| w_seq <| w_block ?_
 obtain ⟨c19, he⟩ := rq he
 refine w_drawn (p := 12) (tl := [12, 13]) [[], [], [], [(1, some 15), (2, some 16)], [(3, some 17)], [], [], [(5, some 19), (6, some 20)], [(7, some 21)], [(8, some 22)], [(9, some 23)], [(4, some 18), (10, some 24)]] [some 14, some 15, some 16, some 17, some 18, some 19, some 20, some 21, some 22, some 23, some 24, some 25] (fctF (.is (.int .i64 3) :: .is (.int .i64 3) :: .is (.pointer (some ⟨b1, 0, none⟩)) :: .is (.pointer (some ⟨b1, 3, none⟩)) :: .is (v3_e_) :: .is (.int .i64 3) :: .is (.pointer (some ⟨b1, 0, none⟩)) :: .is (.pointer (some ⟨b1, 3, none⟩)) :: .is (v3_e_) :: .is (.int .i64 (e_.f_L.e3.length : Int)) :: .is (.int .i64 (min (e_.f_L.e3.length : Int) 15)) :: .ro kU8 (cut e_.f_L.e3 0 (min (e_.f_L.e3.length : Int) 15)) :: [])) (fun m_ => some (b3, .cells ⟨[v5, v10, v15, .slice none 0 0]⟩ 53 (0, 0)) :: some (b2, .cells ⟨[.bool false, .slice none 0 0, .bool false, .slice none 0 0, .bool false, .slice none 0 0, .bool false, .slice none 0 0]⟩ 45 (0, 0)) :: some (b1, .cells ⟨[v0_e_, v1_e_, v2_e_, v3_e_, .bool e_.f_Neg.e0, .bool e_.f_Neg.e1]⟩ 56 (0, 0)) :: L) (fun _ => none) mixed (by kernel_rfl) (by kernel_rfl) rfl (fct_mono (by kernel_rfl)) ⟨(fun H' m_ hH hm_ hu_ => dn <| s_d (m_ 0) rfl (d_move (v := .int .i64 3) rfl) (by exact rfl) rfl), (fun H' m_ hH hm_ hu_ => dn <| s_d (m_ 1) rfl (d_move (v := .int .i64 3) rfl) (by exact rfl) rfl), (fun H' m_ hH hm_ hu_ => dn <| s_d (m_ 2) rfl (d_fld (o' := 0) Tryz.underlying56 rfl sz53 rfl rfl rfl) (by exact rfl) rfl), (by rintro H' m_ hH hm_ hu_ _ rfl _ rfl; exact dn <| s_d (m_ 3) rfl (d_idxArr (o' := 3) Tryz.underlying53 sz52 rfl rfl (by decide) rfl) (by exact rfl) rfl), (by rintro H' m_ hH hm_ hu_ _ rfl; exact dn <| s_d (m_ 4) rfl (d_loado (v := v3_e_) ty52 rfl (.there (.there .here)) rfl rfl rfl rfl) (by exact rfl) rfl), (fun H' m_ hH hm_ hu_ => dn <| s_d (m_ 5) rfl (d_move (v := .int .i64 3) rfl) (by exact rfl) rfl), (fun H' m_ hH hm_ hu_ => dn <| s_d (m_ 6) rfl (d_fld (o' := 0) Tryz.underlying56 rfl sz53 rfl rfl rfl) (by exact rfl) rfl), (by rintro H' m_ hH hm_ hu_ _ rfl _ rfl; exact dn <| s_d (m_ 7) rfl (d_idxArr (o' := 3) Tryz.underlying53 sz52 rfl rfl (by decide) rfl) (by exact rfl) rfl), (by rintro H' m_ hH hm_ hu_ _ rfl; exact dn <| s_d (m_ 8) rfl (d_loado (v := v3_e_) ty52 rfl (.there (.there .here)) rfl rfl rfl rfl) (by exact rfl) rfl), (by rintro H' m_ hH hm_ hu_ _ rfl; exact dn <| s_d (m_ 9) rfl (d_len Tryz.underlying52 rfl (h3_e_.mono (((e8.trans e13).trans e18).trans hH)).src) (by exact rfl) rfl), (by rintro H' m_ hH hm_ hu_ _ rfl; exact dn <| s_d (m_ 10) rfl (d_min rfl rfl) (by exact rfl) rfl), (by rintro H' m_ hH hm_ hu_ _ rfl _ rfl; exact dn <| s_k (m_ 11) rfl (o_cut (kd := kU8) Tryz.underlying52 sz5 rfl (h3_e_.mono (((e8.trans e13).trans e18).trans hH)) (.inl ⟨rfl, rfl⟩) (.inr ⟨_, _, rfl, rfl⟩) c19) rfl (by rintro v_ _ _ ⟨h_, rfl, rfl⟩; exact ⟨rfl, .refl _, h_⟩)), trivial⟩ ?_
 intro H22 e23
 rintro _ _ rfl _ _ rfl _ _ rfl _ _ rfl _ _ rfl _ _ rfl _ _ rfl _ _ rfl _ _ rfl _ _ rfl _ _ rfl v20 _ (h21 : Ro kU8 H22 v20 (cut e_.f_L.e3 0 (min (e_.f_L.e3.length : Int) 15)))
 refine w_d rfl (d_idxArr (o' := 3) Tryz.underlying53 sz52 rfl rfl (by decide) rfl) <| w_a0 rfl (o_store (v := v20) sz52 rfl rfl h21.cells rfl (oc (h21.one) oz) .here (.there (.there (.there u1)))) ?_
 rintro _ _ _ ⟨rfl, rfl, rfl⟩
 refine w_done <| w_inBlock <| w_region rfl <| wM (.int .i64 3) rfl rfl <| w_d rfl (d_add (c := 4) rfl rfl (by decide)) <| wA (.int .i64 4) rfl rfl <| w_done <| w_inLoop <| w_seq <| wR rfl <| wM (.int .i64 4) rfl rfl ?_
 refine w_d rfl (d_lss rfl rfl) <| w_done <| w_else rfl rfl <| w_exit rfl <| w_seq ?_
 obtain ⟨y24, hy25, he⟩ := bs he
 obtain ⟨y32, hy33, he⟩ := bs he
 refine w_none (w_none (?_))
 refine w_drawn (p := 18) (tl := [18, 19]) [[], [(0, some 27)], [], [(2, some 29)], [], [(4, some 31)], [(5, some 32)], [(1, some 28), (3, some 30), (6, some 33)], [], [(8, some 35)], [], [(10, some 37)], [], [(12, some 39)], [(13, some 40)], [(9, some 36), (11, some 38), (14, some 41)], [], []] [some 27, some 28, some 29, some 30, some 31, some 32, some 33, some 34, some 35, some 36, some 37, some 38, some 39, some 40, some 41, some 42, some 7, some 8] (fctF (.is (.pointer (some ⟨b3, 0, none⟩)) :: .is (v5) :: .is (.pointer (some ⟨b3, 1, none⟩)) :: .is (v10) :: .is (.pointer (some ⟨b1, 4, none⟩)) :: .is (.pointer (some ⟨b1, 4, none⟩)) :: .is (.bool e_.f_Neg.e0) :: .of (radomelaw34_fraction.out y24) (radomelaw34_fraction.out_mono _) :: .is (.pointer (some ⟨b3, 2, none⟩)) :: .is (v15) :: .is (.pointer (some ⟨b3, 3, none⟩)) :: .is (v20) :: .is (.pointer (some ⟨b1, 4, none⟩)) :: .is (.pointer (some ⟨b1, 5, none⟩)) :: .is (.bool e_.f_Neg.e1) :: .of (radomelaw34_fraction.out y32) (radomelaw34_fraction.out_mono _) :: .box 40 [.bool false, .slice none 0 0, .bool false, .slice none 0 0] :: .box 40 [.bool false, .slice none 0 0, .bool false, .slice none 0 0] :: [])) (fun m_ => m_ 16 :: m_ 17 :: some (b3, .cells ⟨[v5, v10, v15, v20]⟩ 53 (0, 0)) :: some (b2, .cells ⟨[.bool false, .slice none 0 0, .bool false, .slice none 0 0, .bool false, .slice none 0 0, .bool false, .slice none 0 0]⟩ 45 (0, 0)) :: some (b1, .cells ⟨[v0_e_, v1_e_, v2_e_, v3_e_, .bool e_.f_Neg.e0, .bool e_.f_Neg.e1]⟩ 56 (0, 0)) :: L) (fun _ => none) mixed (by kernel_rfl) (by kernel_rfl) rfl (fct_mono (by kernel_rfl)) ⟨(fun H' m_ hH hm_ hu_ => dn <| s_d (m_ 0) rfl (d_idxArr (o' := 0) Tryz.underlying53 sz52 rfl rfl (by decide) rfl) (by exact rfl) rfl), (by rintro H' m_ hH hm_ hu_ _ rfl; exact dn <| s_d (m_ 1) rfl (d_loado (v := v5) ty52 rfl (.there (.there .here)) rfl rfl rfl rfl) (by exact rfl) rfl), (fun H' m_ hH hm_ hu_ => dn <| s_d (m_ 2) rfl (d_idxArr (o' := 1) Tryz.underlying53 sz52 rfl rfl (by decide) rfl) (by exact rfl) rfl), (by rintro H' m_ hH hm_ hu_ _ rfl; exact dn <| s_d (m_ 3) rfl (d_loado (v := v10) ty52 rfl (.there (.there .here)) rfl rfl rfl rfl) (by exact rfl) rfl), (fun H' m_ hH hm_ hu_ => dn <| s_d (m_ 4) rfl (d_fld (o' := 4) Tryz.underlying56 rfl sz54 rfl rfl rfl) (by exact rfl) rfl), (by rintro H' m_ hH hm_ hu_ _ rfl; exact dn <| s_d (m_ 5) rfl (d_idxArr (o' := 4) Tryz.underlying54 sz4 rfl rfl (by decide) rfl) (by exact rfl) rfl), (by rintro H' m_ hH hm_ hu_ _ rfl; exact dn <| s_d (m_ 6) rfl (d_loado (v := .bool e_.f_Neg.e0) ty4 rfl (.there (.there (.there (.there .here)))) rfl rfl rfl rfl) (by exact rfl) rfl), (by rintro H' m_ hH hm_ hu_ _ rfl _ rfl _ rfl; exact dn <| s_k (m_ 7) rfl (o_call co75 (vs := [v5, v10, .bool e_.f_Neg.e0]) rfl (radomelaw34_fraction.calls k hy25 ((h6.mono (((e13.trans e18).trans e23).trans hH)).src) ((h11.mono ((e18.trans e23).trans hH)).src))) rfl (by rintro v_ H_ _ ⟨rfl, e_, h_⟩; exact ⟨rfl, e_, h_⟩)), (fun H' m_ hH hm_ hu_ => dn <| s_d (m_ 8) rfl (d_idxArr (o' := 2) Tryz.underlying53 sz52 rfl rfl (by decide) rfl) (by exact rfl) rfl), (by rintro H' m_ hH hm_ hu_ _ rfl; exact dn <| s_d (m_ 9) rfl (d_loado (v := v15) ty52 rfl (.there (.there .here)) rfl rfl rfl rfl) (by exact rfl) rfl), (fun H' m_ hH hm_ hu_ => dn <| s_d (m_ 10) rfl (d_idxArr (o' := 3) Tryz.underlying53 sz52 rfl rfl (by decide) rfl) (by exact rfl) rfl), (by rintro H' m_ hH hm_ hu_ _ rfl; exact dn <| s_d (m_ 11) rfl (d_loado (v := v20) ty52 rfl (.there (.there .here)) rfl rfl rfl rfl) (by exact rfl) rfl), (fun H' m_ hH hm_ hu_ => dn <| s_d (m_ 12) rfl (d_fld (o' := 4) Tryz.underlying56 rfl sz54 rfl rfl rfl) (by exact rfl) rfl), (by rintro H' m_ hH hm_ hu_ _ rfl; exact dn <| s_d (m_ 13) rfl (d_idxArr (o' := 5) Tryz.underlying54 sz4 rfl rfl (by decide) rfl) (by exact rfl) rfl), (by rintro H' m_ hH hm_ hu_ _ rfl; exact dn <| s_d (m_ 14) rfl (d_loado (v := .bool e_.f_Neg.e1) ty4 rfl (.there (.there (.there (.there .here)))) rfl rfl rfl rfl) (by exact rfl) rfl), (by rintro H' m_ hH hm_ hu_ _ rfl _ rfl _ rfl; exact dn <| s_k (m_ 15) rfl (o_call co75 (vs := [v15, v20, .bool e_.f_Neg.e1]) rfl (radomelaw34_fraction.calls k hy33 ((h16.mono (e23.trans hH)).src) ((h21.mono hH).src))) rfl (by rintro v_ H_ _ ⟨rfl, e_, h_⟩; exact ⟨rfl, e_, h_⟩)), (fun H' m_ hH hm_ hu_ => dn <| s_box hm_ rfl rfl (o_alloc zr40 rfl) rfl (fun _ => .here) (by exact fun b_ => ⟨b_, rfl, rfl⟩)), (fun H' m_ hH hm_ hu_ => dn <| s_box hm_ rfl rfl (o_alloc zr40 rfl) rfl (fun _ => (.there .here)) (by exact fun b_ => ⟨b_, rfl, rfl⟩)), trivial⟩ ?_
 intro H42 e43
 rintro _ _ rfl _ _ rfl _ _ rfl _ _ rfl _ _ rfl _ _ rfl _ _ rfl _ _ ⟨v28, v30, rfl, h29, h31⟩ _ _ rfl _ _ rfl _ _ rfl _ _ rfl _ _ rfl _ _ rfl _ _ rfl _ _ ⟨v36, v38, rfl, h37, h39⟩ _ _ ⟨b40, rfl, rfl⟩ _ _ ⟨b41, rfl, rfl⟩
 refine w_a0 rfl (o_store (v := .agg ⟨[.bool y24.f_N.f_Neg, v28, .bool y24.f_D.f_Neg, v30]⟩) sz40 rfl rfl rfl rfl (oc rfl (oc (h29.one) (oc rfl (oc (h31.one) oz)))) .here u4) ?_
 rintro _ _ _ ⟨rfl, rfl, rfl⟩
 refine w_a0 rfl (o_store (v := .agg ⟨[.bool y32.f_N.f_Neg, v36, .bool y32.f_D.f_Neg, v38]⟩) sz40 rfl rfl rfl rfl (oc rfl (oc (h37.one) (oc rfl (oc (h39.one) oz)))) (.there .here) u4) ?_
 rintro _ _ _ ⟨rfl, rfl, rfl⟩
 refine wQ rfl <| wL (.agg ⟨[.bool y24.f_N.f_Neg, v28, .bool y24.f_D.f_Neg, v30]⟩) ty40 rfl rfl .here rfl rfl <| wL (.agg ⟨[.bool y32.f_N.f_Neg, v36, .bool y32.f_D.f_Neg, v38]⟩) ty40 rfl rfl (.there .here) rfl rfl <| w_d rfl (d_build (cs' := [.bool y24.f_N.f_Neg, v28, .bool y24.f_D.f_Neg, v30, .bool y32.f_N.f_Neg, v36, .bool y32.f_D.f_Neg, v38]) Tryz.underlying45 zr45 rfl (by kernel_rfl) (parts := [(0, .agg ⟨[.bool y24.f_N.f_Neg, v28, .bool y24.f_D.f_Neg, v30]⟩), (1, .agg ⟨[.bool y32.f_N.f_Neg, v36, .bool y32.f_D.f_Neg, v38]⟩)]) rfl (.cons (place_of rfl sz40 rfl) rfl rfl u4 (.cons (place_of rfl sz40 rfl) rfl rfl (.there (.there (.there (.there u4)))) .nil))) <| w_a rfl (o_alloc zr45 rfl) ?_
 rintro _ _ _ ⟨b44, rfl, rfl, rfl⟩
 refine w_a0 rfl (o_store (v := .agg ⟨[.bool y24.f_N.f_Neg, v28, .bool y24.f_D.f_Neg, v30, .bool y32.f_N.f_Neg, v36, .bool y32.f_D.f_Neg, v38]⟩) sz45 rfl rfl rfl rfl (oc rfl (oc (h29.one) (oc rfl (oc (h31.one) (oc rfl (oc (h37.one) (oc rfl (oc (h39.one) oz)))))))) .here (.here (.here (.here (.here u4))))) ?_
 rintro _ _ _ ⟨rfl, rfl, rfl⟩
 refine wE <| wR rfl <| wM (.bool order) rfl rfl <| wM (.bool order) rfl rfl <| w_g (g := order) rfl rfl rfl wn_t (fun g45 => d_loado (v := .agg ⟨[.bool y24.f_N.f_Neg, v28, .bool y24.f_D.f_Neg, v30, .bool y32.f_N.f_Neg, v36, .bool y32.f_D.f_Neg, v38]⟩) ty45 rfl .here rfl rfl rfl rfl) ?_
 obtain ⟨y47, hy48, he⟩ := bs he
 refine w_g (g := order) rfl rfl rfl wn_t (fun g46 => call_d (o_call co32 (vs := [.agg ⟨[.bool y24.f_N.f_Neg, v28, .bool y24.f_D.f_Neg, v30, .bool y32.f_N.f_Neg, v36, .bool y32.f_D.f_Neg, v38]⟩]) (acons (cvt g46) (anil)) (radomeref34_May.calls k (a := ⟨y24, y32⟩) (gd_t g46 hy48) h29 h31 h37 h39))) <| w_g (g := order) rfl rfl rfl wn_t (fun g51 => d_not (b := y47) (cvt g51)) <| w_d rfl (d_and' (b := order) (p := (!y47)) rfl rfl rfl) <| w_done ?_
 rcases its he with ⟨c52, he⟩ | ⟨c52, he⟩
 ·
  refine w_then rfl c52 <| wR rfl <| wL (.agg ⟨[.bool y32.f_N.f_Neg, v36, .bool y32.f_D.f_Neg, v38]⟩) ty40 rfl rfl (.there (.there .here)) rfl rfl <| wL (.agg ⟨[.bool y24.f_N.f_Neg, v28, .bool y24.f_D.f_Neg, v30]⟩) ty40 rfl rfl (.there .here) rfl rfl <| w_d rfl (d_build (cs' := [.bool y32.f_N.f_Neg, v36, .bool y32.f_D.f_Neg, v38, .bool y24.f_N.f_Neg, v28, .bool y24.f_D.f_Neg, v30]) Tryz.underlying45 zr45 rfl (by kernel_rfl) (parts := [(0, .agg ⟨[.bool y32.f_N.f_Neg, v36, .bool y32.f_D.f_Neg, v38]⟩), (1, .agg ⟨[.bool y24.f_N.f_Neg, v28, .bool y24.f_D.f_Neg, v30]⟩)]) rfl (.cons (place_of rfl sz40 rfl) rfl rfl u4 (.cons (place_of rfl sz40 rfl) rfl rfl (.there (.there (.there (.there u4)))) .nil))) <| w_a0 rfl (o_store (v := .agg ⟨[.bool y32.f_N.f_Neg, v36, .bool y32.f_D.f_Neg, v38, .bool y24.f_N.f_Neg, v28, .bool y24.f_D.f_Neg, v30]⟩) sz45 rfl rfl rfl rfl (oc rfl (oc (h37.one) (oc rfl (oc (h39.one) (oc rfl (oc (h29.one) (oc rfl (oc (h31.one) oz)))))))) (.there (.there (.there (.there .here)))) (.here (.here (.here (.here u4))))) ?_
  rintro _ _ _ ⟨rfl, rfl, rfl⟩
  refine w_done ?_
  obtain rfl := sj he
  refine w_return fn_22 rs_22 (.box (v := .agg ⟨[.bool y32.f_N.f_Neg, v36, .bool y32.f_D.f_Neg, v38, .bool y24.f_N.f_Neg, v28, .bool y24.f_D.f_Neg, v30]⟩) rfl ty45 rfl rfl (.there (.there (.there (.there .here)))) rfl .nil) <| ⟨⟨[_, _, _, _, _, _], rfl⟩, hle.trans ((((e8.trans e13).trans e18).trans e23).trans e43), ⟨v36, v38, v28, v30, rfl, h37, h39, h29, h31⟩⟩
 ·
  refine w_else rfl (Bool.eq_false_iff.2 c52) <| w_skip <| wR rfl <| wL (.agg ⟨[.bool y24.f_N.f_Neg, v28, .bool y24.f_D.f_Neg, v30, .bool y32.f_N.f_Neg, v36, .bool y32.f_D.f_Neg, v38]⟩) ty45 rfl rfl .here rfl rfl <| w_a0 rfl (o_store (v := .agg ⟨[.bool y24.f_N.f_Neg, v28, .bool y24.f_D.f_Neg, v30, .bool y32.f_N.f_Neg, v36, .bool y32.f_D.f_Neg, v38]⟩) sz45 rfl rfl rfl rfl (oc rfl (oc (h29.one) (oc rfl (oc (h31.one) (oc rfl (oc (h37.one) (oc rfl (oc (h39.one) oz)))))))) (.there (.there (.there (.there .here)))) (.here (.here (.here (.here u4))))) ?_
  rintro _ _ _ ⟨rfl, rfl, rfl⟩
  refine w_done ?_
  obtain rfl := sj he
  refine w_return fn_22 rs_22 (.box (v := .agg ⟨[.bool y24.f_N.f_Neg, v28, .bool y24.f_D.f_Neg, v30, .bool y32.f_N.f_Neg, v36, .bool y32.f_D.f_Neg, v38]⟩) rfl ty45 rfl rfl (.there (.there (.there (.there .here)))) rfl .nil) <| ⟨⟨[_, _, _, _, _, _], rfl⟩, hle.trans ((((e8.trans e13).trans e18).trans e23).trans e43), ⟨v28, v30, v36, v38, rfl, h29, h31, h37, h39⟩⟩
end Go.Proofs.YtkccpkccdbfomaaGreatDoor.GSH

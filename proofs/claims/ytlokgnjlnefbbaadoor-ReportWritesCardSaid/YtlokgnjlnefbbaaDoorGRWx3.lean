/- printed by gen.py -/
import Derived.Test.YtlokgnjlnefbbaaDoorGRWx2
namespace Go.Proofs.YtlokgnjlnefbbaaDoor.GRW
open Go Go.RowKit Go.Proofs.YtlokgnjlnefbbaaDoorK Go.Proofs.YtlokgnjlnefbbaaDoor
set_option maxRecDepth 100000
set_option maxHeartbeats 2000000
set_option linter.unusedVariables false
set_option linter.unusedSimpArgs false
noncomputable def radomeref01_Div.C : Code := (Tryd.f57.body).getD .skip
def radomeref01_Div.out (r : radomeref01_Num × radomeref01_Num) (H : Hp) (v : Value) : Prop := ∃ v0, ∃ v1, v = .tuple ⟨[.agg ⟨[.bool r.1.f_Neg, v0]⟩, .agg ⟨[.bool r.2.f_Neg, v1]⟩]⟩ ∧ Ro kI64 H v0 r.1.f_D ∧ Ro kI64 H v1 r.2.f_D
theorem radomeref01_Div.out_mono (r : radomeref01_Num × radomeref01_Num) {H H' : Hp} {v : Value} (hle : H.le H') (h : radomeref01_Div.out r H v) : radomeref01_Div.out r H' v := by
 obtain ⟨v0, v1, rfl, h0, h1⟩ := h; exact ⟨v0, v1, rfl, h0.mono hle, h1.mono hle⟩
abbrev radomeref01_Div.R (H0 : Hp) (L : Items) (r : radomeref01_Num × radomeref01_Num) := fR H0 L (radomeref01_Div.out r)
structure radomeref01_Div.Hs where
 l0 : Bool → (List Int) → Bool → (List Int) → (List Int) → (List Int) → Int → Option (radomeref01_Num × radomeref01_Num)
 l1 : Bool → (List Int) → Bool → (List Int) → (List Int) → (List Int) → Int → Option (radomeref01_Num × radomeref01_Num)
noncomputable def radomeref01_Div.b0 (k : Nat) (h : radomeref01_Div.Hs)  (a_0 : Bool) (a_1 : List Int) (b_0 : Bool) (b_1 : List Int) (rest : List Int) (q : List Int) (i : Int) : Option (radomeref01_Num × radomeref01_Num) := if 0 ≤ i then (if (0 : Int) ≤ i ∧ i < (a_1.length : Int) then (if [rd a_1 i].length + rest.length ≤ 17592186044288 then ((radomeref01_trim.f k ([rd a_1 i] ++ rest)).bind fun y21 => h.l1 a_0 a_1 b_0 b_1 y21 q i) else none) else none) else ((radomeref01_trim.f k q).bind fun y30 => (radomeref01_num.f k (!(a_0 == b_0)) y30).bind fun y36 => (radomeref01_num.f k false rest).bind fun y45 => if (a_0 && (decide (0 < (rest.length : Int)))) = true then ((radomeref01_minus.f k b_1 rest).bind fun y56 => (radomeref01_num.f k false y56).bind fun y62 => if b_0 = true then ((radomeref01_Of.f k 1).bind fun y69 => (radomeref01_Add.f k y36 y69).bind fun y77 => some (y77, y62)) else ((radomeref01_Of.f k 1).bind fun y85 => (radomeref01_Sub.f k y36 y85).bind fun y93 => some (y93, y62))) else (some (y36, y45)))
noncomputable def radomeref01_Div.b1 (k : Nat) (h : radomeref01_Div.Hs)  (a_0 : Bool) (a_1 : List Int) (b_0 : Bool) (b_1 : List Int) (rest : List Int) (q : List Int) (i : Int) : Option (radomeref01_Num × radomeref01_Num) := (radomeref01_Less.f k rest b_1).bind fun y103 => if (!y103) = true then ((radomeref01_minus.f k rest b_1).bind fun y108 => if (0 : Int) ≤ i ∧ i < (q.length : Int) then (if (0 : Int) ≤ i ∧ i < (q.length : Int) then (h.l1 a_0 a_1 b_0 b_1 y108 (q.set (i : Int).toNat (w64 ((rd q i) + 1))) i) else none) else none) else (h.l0 a_0 a_1 b_0 b_1 rest q (w64 (i - 1)))
noncomputable def radomeref01_Div.hs : Nat → radomeref01_Div.Hs
 | 0 => ⟨fun _ _ _ _ _ _ _ => none, fun _ _ _ _ _ _ _ => none⟩
 | k + 1 => ⟨fun x0 x1 x2 x3 x4 x5 x6 => radomeref01_Div.b0 k (radomeref01_Div.hs k) x0 x1 x2 x3 x4 x5 x6, fun x0 x1 x2 x3 x4 x5 x6 => radomeref01_Div.b1 k (radomeref01_Div.hs k) x0 x1 x2 x3 x4 x5 x6⟩
noncomputable def radomeref01_Div.f (k : Nat) (a : radomeref01_Num) (b : radomeref01_Num) : Option (radomeref01_Num × radomeref01_Num) := (fun h : radomeref01_Div.Hs => if 0 ≤ (a.f_D.length : Int) ∧ (a.f_D.length : Int) ≤ 35184372088832 then (h.l0 a.f_Neg a.f_D b.f_Neg b.f_D [] (List.replicate ((a.f_D.length : Int) : Int).toNat (0 : Int)) (w64 ((a.f_D.length : Int) - 1))) else none) (radomeref01_Div.hs k)
noncomputable def radomeref01_Div.Kl0 : List Item := .code (lopB (blkB (seqR (seqL (seqR (seqR (seqR radomeref01_Div.C))))))) :: .inLoop (lopB (blkB (seqR (seqL (seqR (seqR (seqR radomeref01_Div.C))))))) :: .inBlock 0 :: .code (seqR (seqR (seqR (seqR radomeref01_Div.C)))) :: []
noncomputable def radomeref01_Div.Kl1 : List Item := .code (lopB (blkB (seqR (blkB (seqL (seqR (lopB (blkB (seqR (seqL (seqR (seqR (seqR radomeref01_Div.C))))))))))))) :: .inLoop (lopB (blkB (seqR (blkB (seqL (seqR (lopB (blkB (seqR (seqL (seqR (seqR (seqR radomeref01_Div.C))))))))))))) :: .inBlock 2 :: .inBlock 1 :: .code (seqR (seqR (lopB (blkB (seqR (seqL (seqR (seqR (seqR radomeref01_Div.C))))))))) :: .inLoop (lopB (blkB (seqR (seqL (seqR (seqR (seqR radomeref01_Div.C))))))) :: .inBlock 0 :: .code (seqR (seqR (seqR (seqR radomeref01_Div.C)))) :: []
structure radomeref01_Div.OK (h : radomeref01_Div.Hs) : Prop where
 l0 : ∀ {H0 H : Hp} {L : Items} {r : radomeref01_Num × radomeref01_Num} {jk_ : Nat → Value} {a_0 : Bool} {a_1 : List Int} {b_0 : Bool} {b_1 : List Int} {rest : List Int} {q : List Int} {i : Int} {v_a_1 : Value} {v_b_1 : Value} {v_rest : Value} {v_q : Value} {i_q : Item'} {b_a : Nat} {b_b : Nat} {b_t4 : Nat} {b_t5 : Nat} (_ : H0.le H) (_he : h.l0 a_0 a_1 b_0 b_1 rest q i = some r) (_h_a_1 : Ro kI64 H v_a_1 a_1) (_h_b_1 : Ro kI64 H v_b_1 b_1) (_h_rest : Ro kI64 H v_rest rest) (_h_q : Sl kI64 H 3 i_q v_q q), Wp Tryd.prog 57 79 radomeref01_Div.Kl0 (upd (upd (upd (upd (upd (upd (upd jk_ 2 (.pointer (some ⟨b_a, 0, none⟩))) 3 (.pointer (some ⟨b_b, 0, none⟩))) 4 (.pointer (some ⟨b_t4, 0, none⟩))) 5 (.pointer (some ⟨b_t5, 0, none⟩))) 6 (v_rest)) 7 (v_q)) 8 (.int .i64 i)) H (i_q :: some (b_t5, .cells ⟨[.bool false, .slice none 0 0]⟩ 84 (0, 0)) :: some (b_t4, .cells ⟨[.bool false, .slice none 0 0]⟩ 84 (0, 0)) :: some (b_b, .cells ⟨[.bool b_0, v_b_1]⟩ 84 (0, 0)) :: some (b_a, .cells ⟨[.bool a_0, v_a_1]⟩ 84 (0, 0)) :: L) (radomeref01_Div.R H0 L r)
 l1 : ∀ {H0 H : Hp} {L : Items} {r : radomeref01_Num × radomeref01_Num} {jk_ : Nat → Value} {a_0 : Bool} {a_1 : List Int} {b_0 : Bool} {b_1 : List Int} {rest : List Int} {q : List Int} {i : Int} {v_a_1 : Value} {v_b_1 : Value} {v_rest : Value} {v_q : Value} {i_q : Item'} {b_a : Nat} {b_b : Nat} {b_t4 : Nat} {b_t5 : Nat} (_ : H0.le H) (_he : h.l1 a_0 a_1 b_0 b_1 rest q i = some r) (_h_a_1 : Ro kI64 H v_a_1 a_1) (_h_b_1 : Ro kI64 H v_b_1 b_1) (_h_rest : Ro kI64 H v_rest rest) (_h_q : Sl kI64 H 3 i_q v_q q), Wp Tryd.prog 57 79 radomeref01_Div.Kl1 (upd (upd (upd (upd (upd (upd (upd jk_ 2 (.pointer (some ⟨b_a, 0, none⟩))) 3 (.pointer (some ⟨b_b, 0, none⟩))) 4 (.pointer (some ⟨b_t4, 0, none⟩))) 5 (.pointer (some ⟨b_t5, 0, none⟩))) 6 (v_rest)) 7 (v_q)) 8 (.int .i64 i)) H (i_q :: some (b_t5, .cells ⟨[.bool false, .slice none 0 0]⟩ 84 (0, 0)) :: some (b_t4, .cells ⟨[.bool false, .slice none 0 0]⟩ 84 (0, 0)) :: some (b_b, .cells ⟨[.bool b_0, v_b_1]⟩ 84 (0, 0)) :: some (b_a, .cells ⟨[.bool a_0, v_a_1]⟩ 84 (0, 0)) :: L) (radomeref01_Div.R H0 L r)
theorem radomeref01_Div.b0_ok {k : Nat} {h : radomeref01_Div.Hs} (hh : radomeref01_Div.OK h) {H0 H : Hp} {L : Items} {r : radomeref01_Num × radomeref01_Num} {jk_ : Nat → Value} {a_0 : Bool} {a_1 : List Int} {b_0 : Bool} {b_1 : List Int} {rest : List Int} {q : List Int} {i : Int} {v_a_1 : Value} {v_b_1 : Value} {v_rest : Value} {v_q : Value} {i_q : Item'} {b_a : Nat} {b_b : Nat} {b_t4 : Nat} {b_t5 : Nat} (hle : H0.le H) (he : radomeref01_Div.b0 k h a_0 a_1 b_0 b_1 rest q i = some r) (h_a_1 : Ro kI64 H v_a_1 a_1) (h_b_1 : Ro kI64 H v_b_1 b_1) (h_rest : Ro kI64 H v_rest rest) (h_q : Sl kI64 H 3 i_q v_q q) : Wp Tryd.prog 57 79 radomeref01_Div.Kl0 (upd (upd (upd (upd (upd (upd (upd jk_ 2 (.pointer (some ⟨b_a, 0, none⟩))) 3 (.pointer (some ⟨b_b, 0, none⟩))) 4 (.pointer (some ⟨b_t4, 0, none⟩))) 5 (.pointer (some ⟨b_t5, 0, none⟩))) 6 (v_rest)) 7 (v_q)) 8 (.int .i64 i)) H (i_q :: some (b_t5, .cells ⟨[.bool false, .slice none 0 0]⟩ 84 (0, 0)) :: some (b_t4, .cells ⟨[.bool false, .slice none 0 0]⟩ 84 (0, 0)) :: some (b_b, .cells ⟨[.bool b_0, v_b_1]⟩ 84 (0, 0)) :: some (b_a, .cells ⟨[.bool a_0, v_a_1]⟩ 84 (0, 0)) :: L) (radomeref01_Div.R H0 L r) := by
 unfold radomeref01_Div.b0 at he
 unfold radomeref01_Div.Kl0
 refine w_seq <| wR rfl <| wM (.int .i64 i) rfl rfl <| w_d rfl (d_geq rfl rfl) <| w_done ?_
 rcases its he with ⟨c9, he⟩ | ⟨c9, he⟩
 ·
  refine w_then rfl (dt c9) <| w_skip <| w_seq <| w_block <| wR rfl <| w_d rfl (d_fld (o' := 1) Tryd.underlying84 rfl sz41 rfl rfl rfl) <| wL v_a_1 ty41 rfl rfl (.there (.there (.there (.there .here)))) rfl rfl <| wM (.int .i64 i) rfl rfl ?_
  obtain ⟨c10, he⟩ := rq he
  refine w_d rfl (d_index (sz := 1) Tryd.underlying41 sz3 rfl h_a_1.src rfl c10) <| w_d rfl (d_ldint ty3 rfl h_a_1.src c10) <| w_a rfl (o_buildSlice' (kd := kI64) (css := [[.int .i64 (rd a_1 i)]]) (xs := [rd a_1 i]) (parts := [(0, .int .i64 (rd a_1 i))]) Tryd.underlying41 ti3 rfl ⟨_, _, rfl, rfl, rfl⟩ ⟨rfl, trivial⟩ rfl (by decide)) ?_
  rintro v11 _ _ ⟨i12, rfl, rfl, h13⟩
  refine wM v_rest rfl rfl ?_
  obtain ⟨c14, he⟩ := rq he
  refine w_a rfl (o_append' (kd := kI64) (F := fun z_ => z_ :: i_q :: some (b_t5, .cells ⟨[.bool false, .slice none 0 0]⟩ 84 (0, 0)) :: some (b_t4, .cells ⟨[.bool false, .slice none 0 0]⟩ 84 (0, 0)) :: some (b_b, .cells ⟨[.bool b_0, v_b_1]⟩ 84 (0, 0)) :: some (b_a, .cells ⟨[.bool a_0, v_a_1]⟩ 84 (0, 0)) :: L) Tryd.underlying41 Tryd.underlying41 ti3 rfl (by first | omega | (simp only [List.nil_append, List.length_cons, List.length_nil]; omega)) rfl rfl h13 h_rest.src (fun _ => .here)) ?_
  rintro v15 _ _ ⟨i16, rfl, rfl, h17⟩
  refine w_freeze h17 .here ?_
  intro H18 e19 h20
  obtain ⟨y21, hy22, he⟩ := bs he
  refine w_a rfl (o_call co73 (vs := [v15]) rfl (radomeref01_trim.calls k hy22 h20)) ?_
  rintro v25 H23 _ ⟨rfl, e24, h26⟩
  refine wA v25 rfl rfl <| w_done <| w_block <| w_loop <| w_del .here <| w_sl 2 (.pointer (some ⟨b_a, 0, none⟩)) rfl <| w_sl 3 (.pointer (some ⟨b_b, 0, none⟩)) rfl <| w_sl 4 (.pointer (some ⟨b_t4, 0, none⟩)) rfl <| w_sl 5 (.pointer (some ⟨b_t5, 0, none⟩)) rfl <| w_sl 6 (v25) rfl <| w_sl 7 (v_q) rfl <| w_sl 8 (.int .i64 i) rfl <| hh.l1 (hle.trans (e19.trans e24)) he (h_a_1.mono (e19.trans e24)) (h_b_1.mono (e19.trans e24)) h26 (h_q.mono (e19.trans e24))
 ·
  refine w_else rfl (df c9) <| w_exit rfl <| w_seq <| w_freeze h_q .here ?_
  intro H27 e28 h29
  obtain ⟨y30, hy31, he⟩ := bs he
  obtain ⟨y36, hy37, he⟩ := bs he
  refine w_none (?_)
  refine w_drawn (p := 9) (tl := [9]) [[], [(0, some 47)], [], [(2, some 49)], [(1, some 48), (3, some 50)], [], [(5, some 52)], [(4, some 51), (6, some 53)], []] [some 47, some 48, some 49, some 50, some 51, some 52, some 53, some 54, some 9] (fctF (.is (.pointer (some ⟨b_a, 0, none⟩)) :: .is (.bool a_0) :: .is (.pointer (some ⟨b_b, 0, none⟩)) :: .is (.bool b_0) :: .is (.bool (!(a_0 == b_0))) :: .is (v_q) :: .ro kI64 (y30) :: .of (radomeref01_num.out y36) (radomeref01_num.out_mono _) :: .box 84 [.bool false, .slice none 0 0] :: [])) (fun m_ => m_ 8 :: none :: some (b_t5, .cells ⟨[.bool false, .slice none 0 0]⟩ 84 (0, 0)) :: some (b_t4, .cells ⟨[.bool false, .slice none 0 0]⟩ 84 (0, 0)) :: some (b_b, .cells ⟨[.bool b_0, v_b_1]⟩ 84 (0, 0)) :: some (b_a, .cells ⟨[.bool a_0, v_a_1]⟩ 84 (0, 0)) :: L) (fun _ => none) mixed (by kernel_rfl) (by kernel_rfl) rfl (fct_mono (by kernel_rfl)) ⟨(fun H' m_ hH hm_ hu_ => dn <| s_d (m_ 0) rfl (d_fld (o' := 0) Tryd.underlying84 rfl sz4 rfl rfl rfl) (by exact rfl) rfl), (by rintro H' m_ hH hm_ hu_ _ rfl; exact dn <| s_d (m_ 1) rfl (d_loado (v := .bool a_0) ty4 rfl (.there (.there (.there (.there (.there .here))))) rfl rfl rfl rfl) (by exact rfl) rfl), (fun H' m_ hH hm_ hu_ => dn <| s_d (m_ 2) rfl (d_fld (o' := 0) Tryd.underlying84 rfl sz4 rfl rfl rfl) (by exact rfl) rfl), (by rintro H' m_ hH hm_ hu_ _ rfl; exact dn <| s_d (m_ 3) rfl (d_loado (v := .bool b_0) ty4 rfl (.there (.there (.there (.there .here)))) rfl rfl rfl rfl) (by exact rfl) rfl), (by rintro H' m_ hH hm_ hu_ _ rfl _ rfl; exact dn <| s_d (m_ 4) rfl (d_neb (a := a_0) (b := b_0) Tryd.underlying4 rfl rfl) (by exact rfl) rfl), (fun H' m_ hH hm_ hu_ => dn <| s_d (m_ 5) rfl (d_move (v := v_q) rfl) (by exact rfl) rfl), (by rintro H' m_ hH hm_ hu_ _ rfl; exact dn <| s_k (m_ 6) rfl (o_call co73 (vs := [v_q]) rfl (radomeref01_trim.calls k hy31 (h29.mono hH))) rfl (by rintro v_ H_ _ ⟨rfl, e_, h_⟩; exact ⟨rfl, e_, h_⟩)), (by rintro H' m_ hH hm_ hu_ _ rfl v34 (h35 : Ro kI64 H' v34 y30); exact dn <| s_k (m_ 7) rfl (o_call co76 (vs := [.bool (!(a_0 == b_0)), v34]) rfl (radomeref01_num.calls k hy37 h35)) rfl (by rintro v_ H_ _ ⟨rfl, e_, h_⟩; exact ⟨rfl, e_, h_⟩)), (fun H' m_ hH hm_ hu_ => dn <| s_box hm_ rfl rfl (o_alloc zr84 rfl) rfl (fun _ => .here) (by exact fun b_ => ⟨b_, rfl, rfl⟩)), trivial⟩ ?_
  intro H43 e44
  rintro _ _ rfl _ _ rfl _ _ rfl _ _ rfl _ _ rfl _ _ rfl v34 _ (h35 : Ro kI64 H43 v34 y30) _ _ ⟨v40, rfl, h41⟩ _ _ ⟨b42, rfl, rfl⟩
  refine w_a0 rfl (o_store (v := .agg ⟨[.bool y36.f_Neg, v40]⟩) sz84 rfl rfl rfl rfl (oc rfl (oc (h41.one) oz)) .here u2) ?_
  rintro _ _ _ ⟨rfl, rfl, rfl⟩
  refine wQ rfl <| wM v_rest rfl rfl ?_
  obtain ⟨y45, hy46, he⟩ := bs he
  refine w_a rfl (o_call co76 (vs := [.bool false, v_rest]) rfl (radomeref01_num.calls k hy46 (h_rest.mono (e28.trans e44)))) ?_
  rintro _ H47 _ ⟨rfl, e48, ⟨v49, rfl, h50⟩⟩
  refine w_a rfl (o_alloc zr84 rfl) ?_
  rintro _ _ _ ⟨b51, rfl, rfl, rfl⟩
  refine w_a0 rfl (o_store (v := .agg ⟨[.bool y45.f_Neg, v49]⟩) sz84 rfl rfl rfl rfl (oc rfl (oc (h50.one) oz)) .here u2) ?_
  rintro _ _ _ ⟨rfl, rfl, rfl⟩
  refine wE <| wR rfl <| w_d rfl (d_fld (o' := 0) Tryd.underlying84 rfl sz4 rfl rfl rfl) <| w_d rfl (d_loado (v := .bool a_0) ty4 rfl (.there (.there (.there (.there (.there (.there .here)))))) rfl rfl rfl rfl) <| wM (.bool a_0) rfl rfl <| w_g (g := a_0) rfl rfl rfl wn_t (fun g52 => d_move (v := v_rest) rfl) <| w_g (g := a_0) rfl rfl rfl wn_t (fun g53 => d_len Tryd.underlying41 (cvt g53) (h_rest.mono ((e28.trans e44).trans e48)).src) <| w_g (g := a_0) rfl rfl rfl wn_t (fun g54 => d_gtr (cvt g54) rfl) <| w_d rfl (d_and' (b := a_0) (p := (decide (0 < (rest.length : Int)))) rfl rfl rfl) <| w_done ?_
  rcases its he with ⟨c55, he⟩ | ⟨c55, he⟩
  ·
   refine w_then rfl c55 <| wR rfl <| w_d rfl (d_fld (o' := 1) Tryd.underlying84 rfl sz41 rfl rfl rfl) <| w_d rfl (d_loado (v := v_b_1) ty41 rfl (.there (.there (.there (.there (.there .here))))) rfl rfl rfl rfl) <| wM v_rest rfl rfl ?_
   obtain ⟨y56, hy57, he⟩ := bs he
   refine w_a rfl (o_call co75 (vs := [v_b_1, v_rest]) rfl (radomeref01_minus.calls k hy57 ((h_b_1.mono ((e28.trans e44).trans e48)).src) ((h_rest.mono ((e28.trans e44).trans e48)).src))) ?_
   rintro v60 H58 _ ⟨rfl, e59, h61⟩
   obtain ⟨y62, hy63, he⟩ := bs he
   refine w_a rfl (o_call co76 (vs := [.bool false, v60]) rfl (radomeref01_num.calls k hy63 h61)) ?_
   rintro _ H64 _ ⟨rfl, e65, ⟨v66, rfl, h67⟩⟩
   refine w_a0 rfl (o_store (v := .agg ⟨[.bool y62.f_Neg, v66]⟩) sz84 rfl rfl rfl rfl (oc rfl (oc (h67.one) oz)) .here u2) ?_
   rintro _ _ _ ⟨rfl, rfl, rfl⟩
   refine wQ rfl <| w_d rfl (d_fld (o' := 0) Tryd.underlying84 rfl sz4 rfl rfl rfl) <| w_d rfl (d_loado (v := .bool b_0) ty4 rfl (.there (.there (.there (.there (.there .here))))) rfl rfl rfl rfl) <| w_done ?_
   rcases its he with ⟨c68, he⟩ | ⟨c68, he⟩
   ·
    refine w_then rfl c68 ?_
    obtain ⟨y69, hy70, he⟩ := bs he
    refine w_drawn (p := 2) (tl := [2, 3]) [[], []] [some 71, some 72] (fctF (.is (.agg ⟨[.bool y36.f_Neg, v40]⟩) :: .of (radomeref01_Of.out y69) (radomeref01_Of.out_mono _) :: [])) (fun m_ => some (b51, .cells ⟨[.bool y62.f_Neg, v66]⟩ 84 (0, 0)) :: some (b42, .cells ⟨[.bool y36.f_Neg, v40]⟩ 84 (0, 0)) :: none :: some (b_t5, .cells ⟨[.bool false, .slice none 0 0]⟩ 84 (0, 0)) :: some (b_t4, .cells ⟨[.bool false, .slice none 0 0]⟩ 84 (0, 0)) :: some (b_b, .cells ⟨[.bool b_0, v_b_1]⟩ 84 (0, 0)) :: some (b_a, .cells ⟨[.bool a_0, v_a_1]⟩ 84 (0, 0)) :: L) (fun _ => none) mixed (by kernel_rfl) (by kernel_rfl) rfl (fct_mono (by kernel_rfl)) ⟨(fun H' m_ hH hm_ hu_ => dn <| s_d (m_ 0) rfl (d_loado (v := .agg ⟨[.bool y36.f_Neg, v40]⟩) ty84 rfl (.there .here) rfl rfl rfl rfl) (by exact rfl) rfl), (fun H' m_ hH hm_ hu_ => dn <| s_k (m_ 1) rfl (o_call co41 (vs := [.int .i64 1]) rfl (radomeref01_Of.calls k hy70)) rfl (by rintro v_ H_ _ ⟨rfl, e_, h_⟩; exact ⟨rfl, e_, h_⟩)), trivial⟩ ?_
    intro H75 e76
    rintro _ _ rfl _ _ ⟨v73, rfl, h74⟩
    obtain ⟨y77, hy78, he⟩ := bs he
    refine w_a rfl (o_call co59 (vs := [.agg ⟨[.bool y36.f_Neg, v40]⟩, .agg ⟨[.bool y69.f_Neg, v73]⟩]) rfl (radomeref01_Add.calls k (a := y36) (b := y69) hy78 (h41.mono (((e48.trans e59).trans e65).trans e76)) h74)) ?_
    rintro _ H79 _ ⟨rfl, e80, ⟨v81, rfl, h82⟩⟩
    refine w_a0 rfl (o_store (v := .agg ⟨[.bool y77.f_Neg, v81]⟩) sz84 rfl rfl rfl rfl (oc rfl (oc (h82.one) oz)) (.there .here) u2) ?_
    rintro _ _ _ ⟨rfl, rfl, rfl⟩
    refine wE <| w_drawn (p := 3) (tl := [3]) [[], [], [(0, some 77)]] [some 77, some 78, none] (fctF (.is (.agg ⟨[.bool y77.f_Neg, v81]⟩) :: .is (.agg ⟨[.bool y62.f_Neg, v66]⟩) :: .itm (fun H itq_ => itq_ = some (b_t4, .cells ⟨[.bool y77.f_Neg, v81]⟩ 84 (0, 0))) (by rintro _ _ _ hle rfl; exact rfl) :: [])) (fun m_ => some (b51, .cells ⟨[.bool y62.f_Neg, v66]⟩ 84 (0, 0)) :: some (b42, .cells ⟨[.bool y77.f_Neg, v81]⟩ 84 (0, 0)) :: none :: some (b_t5, .cells ⟨[.bool false, .slice none 0 0]⟩ 84 (0, 0)) :: m_ 2 :: some (b_b, .cells ⟨[.bool b_0, v_b_1]⟩ 84 (0, 0)) :: some (b_a, .cells ⟨[.bool a_0, v_a_1]⟩ 84 (0, 0)) :: L) (fun i_ => if i_ = 2 then some (b_t4, .cells ⟨[.bool false, .slice none 0 0]⟩ 84 (0, 0)) else none) mixed (by kernel_rfl) (by kernel_rfl) rfl (fct_mono (by kernel_rfl)) ⟨(fun H' m_ hH hm_ hu_ => dn <| s_d (m_ 0) rfl (d_loado (v := .agg ⟨[.bool y77.f_Neg, v81]⟩) ty84 rfl (.there .here) rfl rfl rfl rfl) (by exact rfl) rfl), (fun H' m_ hH hm_ hu_ => dn <| s_d (m_ 1) rfl (d_loado (v := .agg ⟨[.bool y62.f_Neg, v66]⟩) ty84 rfl .here rfl rfl rfl rfl) (by exact rfl) rfl), (by rintro H' m_ hH hm_ hu_ _ rfl; exact dn <| s_store (some (b_t4, .cells ⟨[.bool y77.f_Neg, v81]⟩ 84 (0, 0))) hm_ rfl (o_store (v := .agg ⟨[.bool y77.f_Neg, v81]⟩) sz84 rfl rfl rfl rfl (oc rfl (oc (h82.one) oz)) (.there (.there (.there (.there .here)))) u2) rfl (by exact ⟨rfl, rfl⟩)), trivial⟩ ?_
    intro H83 e84
    rintro _ _ rfl _ _ rfl _ _ ⟨rfl, rfl⟩
    refine w_it (L' := some (b51, .cells ⟨[.bool y62.f_Neg, v66]⟩ 84 (0, 0)) :: some (b42, .cells ⟨[.bool y77.f_Neg, v81]⟩ 84 (0, 0)) :: none :: some (b_t5, .cells ⟨[.bool false, .slice none 0 0]⟩ 84 (0, 0)) :: some (b_t4, .cells ⟨[.bool y77.f_Neg, v81]⟩ 84 (0, 0)) :: some (b_b, .cells ⟨[.bool b_0, v_b_1]⟩ 84 (0, 0)) :: some (b_a, .cells ⟨[.bool a_0, v_a_1]⟩ 84 (0, 0)) :: L) rfl <| w_a0 rfl (o_store (v := .agg ⟨[.bool y62.f_Neg, v66]⟩) sz84 rfl rfl rfl rfl (oc rfl (oc (h67.one) oz)) (.there (.there (.there .here))) u2) ?_
    rintro _ _ _ ⟨rfl, rfl, rfl⟩
    refine w_done ?_
    obtain rfl := sj he
    refine w_return fn_57 rs_57 (.box (v := .agg ⟨[.bool y77.f_Neg, v81]⟩) rfl ty84 rfl rfl (.there (.there (.there (.there .here)))) rfl (.box (v := .agg ⟨[.bool y62.f_Neg, v66]⟩) rfl ty84 rfl rfl (.there (.there (.there .here))) rfl .nil)) <| ⟨⟨[_, _, _, _, _, _, _], rfl⟩, hle.trans (((((((e28.trans e44).trans e48).trans e59).trans e65).trans e76).trans e80).trans e84), ⟨v81, v66, rfl, (h82.mono e84), (h67.mono ((e76.trans e80).trans e84))⟩⟩
   ·
    refine w_else rfl (Bool.eq_false_iff.2 c68) ?_
    obtain ⟨y85, hy86, he⟩ := bs he
    refine w_drawn (p := 2) (tl := [2, 3]) [[], []] [some 74, some 75] (fctF (.is (.agg ⟨[.bool y36.f_Neg, v40]⟩) :: .of (radomeref01_Of.out y85) (radomeref01_Of.out_mono _) :: [])) (fun m_ => some (b51, .cells ⟨[.bool y62.f_Neg, v66]⟩ 84 (0, 0)) :: some (b42, .cells ⟨[.bool y36.f_Neg, v40]⟩ 84 (0, 0)) :: none :: some (b_t5, .cells ⟨[.bool false, .slice none 0 0]⟩ 84 (0, 0)) :: some (b_t4, .cells ⟨[.bool false, .slice none 0 0]⟩ 84 (0, 0)) :: some (b_b, .cells ⟨[.bool b_0, v_b_1]⟩ 84 (0, 0)) :: some (b_a, .cells ⟨[.bool a_0, v_a_1]⟩ 84 (0, 0)) :: L) (fun _ => none) mixed (by kernel_rfl) (by kernel_rfl) rfl (fct_mono (by kernel_rfl)) ⟨(fun H' m_ hH hm_ hu_ => dn <| s_d (m_ 0) rfl (d_loado (v := .agg ⟨[.bool y36.f_Neg, v40]⟩) ty84 rfl (.there .here) rfl rfl rfl rfl) (by exact rfl) rfl), (fun H' m_ hH hm_ hu_ => dn <| s_k (m_ 1) rfl (o_call co41 (vs := [.int .i64 1]) rfl (radomeref01_Of.calls k hy86)) rfl (by rintro v_ H_ _ ⟨rfl, e_, h_⟩; exact ⟨rfl, e_, h_⟩)), trivial⟩ ?_
    intro H91 e92
    rintro _ _ rfl _ _ ⟨v89, rfl, h90⟩
    obtain ⟨y93, hy94, he⟩ := bs he
    refine w_a rfl (o_call co77 (vs := [.agg ⟨[.bool y36.f_Neg, v40]⟩, .agg ⟨[.bool y85.f_Neg, v89]⟩]) rfl (radomeref01_Sub.calls k (a := y36) (b := y85) hy94 (h41.mono (((e48.trans e59).trans e65).trans e92)) h90)) ?_
    rintro _ H95 _ ⟨rfl, e96, ⟨v97, rfl, h98⟩⟩
    refine w_a0 rfl (o_store (v := .agg ⟨[.bool y93.f_Neg, v97]⟩) sz84 rfl rfl rfl rfl (oc rfl (oc (h98.one) oz)) (.there .here) u2) ?_
    rintro _ _ _ ⟨rfl, rfl, rfl⟩
    refine wE <| w_drawn (p := 3) (tl := [3]) [[], [], [(0, some 77)]] [some 77, some 78, none] (fctF (.is (.agg ⟨[.bool y93.f_Neg, v97]⟩) :: .is (.agg ⟨[.bool y62.f_Neg, v66]⟩) :: .itm (fun H itq_ => itq_ = some (b_t4, .cells ⟨[.bool y93.f_Neg, v97]⟩ 84 (0, 0))) (by rintro _ _ _ hle rfl; exact rfl) :: [])) (fun m_ => some (b51, .cells ⟨[.bool y62.f_Neg, v66]⟩ 84 (0, 0)) :: some (b42, .cells ⟨[.bool y93.f_Neg, v97]⟩ 84 (0, 0)) :: none :: some (b_t5, .cells ⟨[.bool false, .slice none 0 0]⟩ 84 (0, 0)) :: m_ 2 :: some (b_b, .cells ⟨[.bool b_0, v_b_1]⟩ 84 (0, 0)) :: some (b_a, .cells ⟨[.bool a_0, v_a_1]⟩ 84 (0, 0)) :: L) (fun i_ => if i_ = 2 then some (b_t4, .cells ⟨[.bool false, .slice none 0 0]⟩ 84 (0, 0)) else none) mixed (by kernel_rfl) (by kernel_rfl) rfl (fct_mono (by kernel_rfl)) ⟨(fun H' m_ hH hm_ hu_ => dn <| s_d (m_ 0) rfl (d_loado (v := .agg ⟨[.bool y93.f_Neg, v97]⟩) ty84 rfl (.there .here) rfl rfl rfl rfl) (by exact rfl) rfl), (fun H' m_ hH hm_ hu_ => dn <| s_d (m_ 1) rfl (d_loado (v := .agg ⟨[.bool y62.f_Neg, v66]⟩) ty84 rfl .here rfl rfl rfl rfl) (by exact rfl) rfl), (by rintro H' m_ hH hm_ hu_ _ rfl; exact dn <| s_store (some (b_t4, .cells ⟨[.bool y93.f_Neg, v97]⟩ 84 (0, 0))) hm_ rfl (o_store (v := .agg ⟨[.bool y93.f_Neg, v97]⟩) sz84 rfl rfl rfl rfl (oc rfl (oc (h98.one) oz)) (.there (.there (.there (.there .here)))) u2) rfl (by exact ⟨rfl, rfl⟩)), trivial⟩ ?_
    intro H99 e100
    rintro _ _ rfl _ _ rfl _ _ ⟨rfl, rfl⟩
    refine w_it (L' := some (b51, .cells ⟨[.bool y62.f_Neg, v66]⟩ 84 (0, 0)) :: some (b42, .cells ⟨[.bool y93.f_Neg, v97]⟩ 84 (0, 0)) :: none :: some (b_t5, .cells ⟨[.bool false, .slice none 0 0]⟩ 84 (0, 0)) :: some (b_t4, .cells ⟨[.bool y93.f_Neg, v97]⟩ 84 (0, 0)) :: some (b_b, .cells ⟨[.bool b_0, v_b_1]⟩ 84 (0, 0)) :: some (b_a, .cells ⟨[.bool a_0, v_a_1]⟩ 84 (0, 0)) :: L) rfl <| w_a0 rfl (o_store (v := .agg ⟨[.bool y62.f_Neg, v66]⟩) sz84 rfl rfl rfl rfl (oc rfl (oc (h67.one) oz)) (.there (.there (.there .here))) u2) ?_
    rintro _ _ _ ⟨rfl, rfl, rfl⟩
    refine w_done ?_
    obtain rfl := sj he
    refine w_return fn_57 rs_57 (.box (v := .agg ⟨[.bool y93.f_Neg, v97]⟩) rfl ty84 rfl rfl (.there (.there (.there (.there .here)))) rfl (.box (v := .agg ⟨[.bool y62.f_Neg, v66]⟩) rfl ty84 rfl rfl (.there (.there (.there .here))) rfl .nil)) <| ⟨⟨[_, _, _, _, _, _, _], rfl⟩, hle.trans (((((((e28.trans e44).trans e48).trans e59).trans e65).trans e92).trans e96).trans e100), ⟨v97, v66, rfl, (h98.mono e100), (h67.mono ((e92.trans e96).trans e100))⟩⟩
  ·
   refine w_else rfl (Bool.eq_false_iff.2 c55) <| w_skip <| w_seq <| w_drawn (p := 3) (tl := [3]) [[], [], [(0, some 77)]] [some 77, some 78, none] (fctF (.is (.agg ⟨[.bool y36.f_Neg, v40]⟩) :: .is (.agg ⟨[.bool y45.f_Neg, v49]⟩) :: .itm (fun H itq_ => itq_ = some (b_t4, .cells ⟨[.bool y36.f_Neg, v40]⟩ 84 (0, 0))) (by rintro _ _ _ hle rfl; exact rfl) :: [])) (fun m_ => some (b51, .cells ⟨[.bool y45.f_Neg, v49]⟩ 84 (0, 0)) :: some (b42, .cells ⟨[.bool y36.f_Neg, v40]⟩ 84 (0, 0)) :: none :: some (b_t5, .cells ⟨[.bool false, .slice none 0 0]⟩ 84 (0, 0)) :: m_ 2 :: some (b_b, .cells ⟨[.bool b_0, v_b_1]⟩ 84 (0, 0)) :: some (b_a, .cells ⟨[.bool a_0, v_a_1]⟩ 84 (0, 0)) :: L) (fun i_ => if i_ = 2 then some (b_t4, .cells ⟨[.bool false, .slice none 0 0]⟩ 84 (0, 0)) else none) mixed (by kernel_rfl) (by kernel_rfl) rfl (fct_mono (by kernel_rfl)) ⟨(fun H' m_ hH hm_ hu_ => dn <| s_d (m_ 0) rfl (d_loado (v := .agg ⟨[.bool y36.f_Neg, v40]⟩) ty84 rfl (.there .here) rfl rfl rfl rfl) (by exact rfl) rfl), (fun H' m_ hH hm_ hu_ => dn <| s_d (m_ 1) rfl (d_loado (v := .agg ⟨[.bool y45.f_Neg, v49]⟩) ty84 rfl .here rfl rfl rfl rfl) (by exact rfl) rfl), (by rintro H' m_ hH hm_ hu_ _ rfl; exact dn <| s_store (some (b_t4, .cells ⟨[.bool y36.f_Neg, v40]⟩ 84 (0, 0))) hm_ rfl (o_store (v := .agg ⟨[.bool y36.f_Neg, v40]⟩) sz84 rfl rfl rfl rfl (oc rfl (oc (h41.one) oz)) (.there (.there (.there (.there .here)))) u2) rfl (by exact ⟨rfl, rfl⟩)), trivial⟩ ?_
   intro H101 e102
   rintro _ _ rfl _ _ rfl _ _ ⟨rfl, rfl⟩
   refine w_it (L' := some (b51, .cells ⟨[.bool y45.f_Neg, v49]⟩ 84 (0, 0)) :: some (b42, .cells ⟨[.bool y36.f_Neg, v40]⟩ 84 (0, 0)) :: none :: some (b_t5, .cells ⟨[.bool false, .slice none 0 0]⟩ 84 (0, 0)) :: some (b_t4, .cells ⟨[.bool y36.f_Neg, v40]⟩ 84 (0, 0)) :: some (b_b, .cells ⟨[.bool b_0, v_b_1]⟩ 84 (0, 0)) :: some (b_a, .cells ⟨[.bool a_0, v_a_1]⟩ 84 (0, 0)) :: L) rfl <| w_a0 rfl (o_store (v := .agg ⟨[.bool y45.f_Neg, v49]⟩) sz84 rfl rfl rfl rfl (oc rfl (oc (h50.one) oz)) (.there (.there (.there .here))) u2) ?_
   rintro _ _ _ ⟨rfl, rfl, rfl⟩
   refine w_done ?_
   obtain rfl := sj he
   refine w_return fn_57 rs_57 (.box (v := .agg ⟨[.bool y36.f_Neg, v40]⟩) rfl ty84 rfl rfl (.there (.there (.there (.there .here)))) rfl (.box (v := .agg ⟨[.bool y45.f_Neg, v49]⟩) rfl ty84 rfl rfl (.there (.there (.there .here))) rfl .nil)) <| ⟨⟨[_, _, _, _, _, _, _], rfl⟩, hle.trans (((e28.trans e44).trans e48).trans e102), ⟨v40, v49, rfl, (h41.mono (e48.trans e102)), (h50.mono e102)⟩⟩
theorem radomeref01_Div.b1_ok {k : Nat} {h : radomeref01_Div.Hs} (hh : radomeref01_Div.OK h) {H0 H : Hp} {L : Items} {r : radomeref01_Num × radomeref01_Num} {jk_ : Nat → Value} {a_0 : Bool} {a_1 : List Int} {b_0 : Bool} {b_1 : List Int} {rest : List Int} {q : List Int} {i : Int} {v_a_1 : Value} {v_b_1 : Value} {v_rest : Value} {v_q : Value} {i_q : Item'} {b_a : Nat} {b_b : Nat} {b_t4 : Nat} {b_t5 : Nat} (hle : H0.le H) (he : radomeref01_Div.b1 k h a_0 a_1 b_0 b_1 rest q i = some r) (h_a_1 : Ro kI64 H v_a_1 a_1) (h_b_1 : Ro kI64 H v_b_1 b_1) (h_rest : Ro kI64 H v_rest rest) (h_q : Sl kI64 H 3 i_q v_q q) : Wp Tryd.prog 57 79 radomeref01_Div.Kl1 (upd (upd (upd (upd (upd (upd (upd jk_ 2 (.pointer (some ⟨b_a, 0, none⟩))) 3 (.pointer (some ⟨b_b, 0, none⟩))) 4 (.pointer (some ⟨b_t4, 0, none⟩))) 5 (.pointer (some ⟨b_t5, 0, none⟩))) 6 (v_rest)) 7 (v_q)) 8 (.int .i64 i)) H (i_q :: some (b_t5, .cells ⟨[.bool false, .slice none 0 0]⟩ 84 (0, 0)) :: some (b_t4, .cells ⟨[.bool false, .slice none 0 0]⟩ 84 (0, 0)) :: some (b_b, .cells ⟨[.bool b_0, v_b_1]⟩ 84 (0, 0)) :: some (b_a, .cells ⟨[.bool a_0, v_a_1]⟩ 84 (0, 0)) :: L) (radomeref01_Div.R H0 L r) := by
 unfold radomeref01_Div.b1 at he
 unfold radomeref01_Div.Kl1
 refine w_seq <| wR rfl <| wM v_rest rfl rfl <| w_d rfl (d_fld (o' := 1) Tryd.underlying84 rfl sz41 rfl rfl rfl) <| wL v_b_1 ty41 rfl rfl (.there (.there (.there .here))) rfl rfl ?_
 obtain ⟨y103, hy104, he⟩ := bs he
 refine w_d rfl (call_d (o_call co74 (vs := [v_rest, v_b_1]) rfl (radomeref01_Less.calls k hy104 h_rest.src h_b_1.src))) <| w_d rfl (d_not (b := y103) rfl) <| w_done ?_
 rcases its he with ⟨c107, he⟩ | ⟨c107, he⟩
 ·
  refine w_then rfl c107 <| w_skip <| w_block <| wR rfl <| wM v_rest rfl rfl <| w_d rfl (d_fld (o' := 1) Tryd.underlying84 rfl sz41 rfl rfl rfl) <| wL v_b_1 ty41 rfl rfl (.there (.there (.there .here))) rfl rfl ?_
  obtain ⟨y108, hy109, he⟩ := bs he
  refine w_a rfl (o_call co75 (vs := [v_rest, v_b_1]) rfl (radomeref01_minus.calls k hy109 h_rest.src h_b_1.src)) ?_
  rintro v112 H110 _ ⟨rfl, e111, h113⟩
  refine wA v112 rfl rfl <| w_done <| w_region rfl <| wM v_q rfl rfl <| wM (.int .i64 i) rfl rfl ?_
  obtain ⟨c114, he⟩ := rq he
  refine w_d rfl (d_indexS (sz := 1) Tryd.underlying41 sz3 rfl (h_q.mono e111).shp rfl c114) <| w_d rfl (d_ldint ty3 rfl ((h_q.mono e111).src .here) c114) <| w_d rfl (d_add (c := w64 ((rd q i) + 1)) rfl rfl rfl) ?_
  obtain ⟨c115, he⟩ := rq he
  refine w_d rfl (d_indexS (sz := 1) Tryd.underlying41 sz3 rfl (h_q.mono e111).shp rfl c115) <| w_a0 rfl (o_storeEl (kd := kI64) (v := .int .i64 (w64 ((rd q i) + 1))) (F := fun z_ => z_ :: some (b_t5, .cells ⟨[.bool false, .slice none 0 0]⟩ 84 (0, 0)) :: some (b_t4, .cells ⟨[.bool false, .slice none 0 0]⟩ 84 (0, 0)) :: some (b_b, .cells ⟨[.bool b_0, v_b_1]⟩ 84 (0, 0)) :: some (b_a, .cells ⟨[.bool a_0, v_a_1]⟩ 84 (0, 0)) :: L) sz3 rfl rfl rfl rfl (h_q.mono e111) c115 (fun _ => .here)) ?_
  rintro _ _ _ ⟨i116, rfl, rfl, rfl, h117⟩
  refine w_done <| w_inBlock <| w_inLoop <| w_sl 2 (.pointer (some ⟨b_a, 0, none⟩)) rfl <| w_sl 3 (.pointer (some ⟨b_b, 0, none⟩)) rfl <| w_sl 4 (.pointer (some ⟨b_t4, 0, none⟩)) rfl <| w_sl 5 (.pointer (some ⟨b_t5, 0, none⟩)) rfl <| w_sl 6 (v112) rfl <| w_sl 7 (v_q) rfl <| w_sl 8 (.int .i64 i) rfl <| hh.l1 (hle.trans e111) he (h_a_1.mono e111) (h_b_1.mono e111) h113 h117
 ·
  refine w_else rfl (Bool.eq_false_iff.2 c107) <| w_exit rfl <| w_inBlock <| w_region rfl <| wM (.int .i64 i) rfl rfl <| w_d rfl (d_sub (c := w64 (i - 1)) rfl rfl rfl) <| wA (.int .i64 (w64 (i - 1))) rfl rfl <| w_done <| w_inLoop <| w_sl 2 (.pointer (some ⟨b_a, 0, none⟩)) rfl <| w_sl 3 (.pointer (some ⟨b_b, 0, none⟩)) rfl <| w_sl 4 (.pointer (some ⟨b_t4, 0, none⟩)) rfl ?_
  refine w_sl 5 (.pointer (some ⟨b_t5, 0, none⟩)) rfl <| w_sl 6 (v_rest) rfl <| w_sl 7 (v_q) rfl <| w_sl 8 (.int .i64 (w64 (i - 1))) rfl <| hh.l0 hle he h_a_1 h_b_1 h_rest h_q
theorem radomeref01_Div.ok : ∀ k, radomeref01_Div.OK (radomeref01_Div.hs k)
 | 0 => ⟨(by intros; exact nomatch (show none = some _ from by assumption)), (by intros; exact nomatch (show none = some _ from by assumption))⟩
 | k + 1 => ⟨radomeref01_Div.b0_ok (k := k) (radomeref01_Div.ok k), radomeref01_Div.b1_ok (k := k) (radomeref01_Div.ok k)⟩
theorem radomeref01_Div.calls (k : Nat) {H : Hp} {L : Items} {a : radomeref01_Num} {b : radomeref01_Num} {v0_a : Value} {v1_b : Value} {r : radomeref01_Num × radomeref01_Num} (he : radomeref01_Div.f k a b = some r) (h0_a : Ro kI64 H v0_a a.f_D) (h1_b : Ro kI64 H v1_b b.f_D) : Ct Tryd.prog 57 ⟨[.agg ⟨[.bool a.f_Neg, v0_a]⟩, .agg ⟨[.bool b.f_Neg, v1_b]⟩]⟩ H L (cR H L (radomeref01_Div.out r)) := by
 refine ct_out (O := radomeref01_Div.out r) ?_
 have hle : H.le H := .refl _
 have hh := radomeref01_Div.ok k
 unfold radomeref01_Div.f at he
 refine ct_enter (args := [.agg ⟨[.bool a.f_Neg, v0_a]⟩, .agg ⟨[.bool b.f_Neg, v1_b]⟩]) fn_57 rfl nt_57 rfl <| wR rfl <| w_a rfl (o_box (v := .agg ⟨[.bool a.f_Neg, v0_a]⟩) rfl rfl) ?_
 rintro _ _ _ ⟨b1, rfl, rfl, rfl⟩
 refine w_a rfl (o_box (v := .agg ⟨[.bool b.f_Neg, v1_b]⟩) rfl rfl) ?_
 rintro _ _ _ ⟨b2, rfl, rfl, rfl⟩
 refine w_a rfl (o_alloc zr84 rfl) ?_
 rintro _ _ _ ⟨b3, rfl, rfl, rfl⟩
 refine w_a rfl (o_alloc zr84 rfl) ?_
 rintro _ _ _ ⟨b4, rfl, rfl, rfl⟩
 refine wQ rfl <| wA (.slice none 0 0) rfl rfl <| wQ rfl <| w_d rfl (d_fld (o' := 1) Tryd.underlying84 rfl sz41 rfl rfl rfl) <| wL v0_a ty41 rfl rfl (.there (.there (.there .here))) rfl rfl <| w_d rfl (d_len Tryd.underlying41 rfl h0_a.src) ?_
 obtain ⟨c5, he⟩ := rq he
 refine w_a rfl (o_make' (kd := kI64) (z0 := 0) Tryd.underlying41 ti3 (zp3 _) rfl rfl (by omega) (by omega) (by omega)) ?_
 rintro v6 _ _ ⟨i7, rfl, rfl, h8⟩
 refine wA v6 rfl rfl <| wE <| wR rfl <| w_d rfl (d_fld (o' := 1) Tryd.underlying84 rfl sz41 rfl rfl rfl) <| wL v0_a ty41 rfl rfl (.there (.there (.there (.there .here)))) rfl rfl <| w_d rfl (d_len Tryd.underlying41 rfl h0_a.src) <| w_d rfl (d_sub (c := w64 ((a.f_D.length : Int) - 1)) rfl rfl rfl) <| wA (.int .i64 (w64 ((a.f_D.length : Int) - 1))) rfl rfl <| w_done <| w_block ?_
 refine w_loop <| w_sl 2 (.pointer (some ⟨b1, 0, none⟩)) rfl <| w_sl 3 (.pointer (some ⟨b2, 0, none⟩)) rfl <| w_sl 4 (.pointer (some ⟨b3, 0, none⟩)) rfl <| w_sl 5 (.pointer (some ⟨b4, 0, none⟩)) rfl <| w_sl 6 (.slice none 0 0) rfl <| w_sl 7 (v6) rfl <| w_sl 8 (.int .i64 (w64 ((a.f_D.length : Int) - 1))) rfl <| hh.l0 hle he h0_a h1_b (ro_nil _ _) h8
noncomputable def radomeref01_Sign.C : Code := (Tryd.f60.body).getD .skip
def radomeref01_Sign.out (r : Int) (H : Hp) (v : Value) : Prop := v = .int .i64 r
noncomputable def radomeref01_Sign.f (k : Nat) (a : radomeref01_Num) : Option Int := if (a.f_D.length : Int) = 0 then (some (0)) else (if a.f_Neg = true then (some ((-1))) else (some (1)))
theorem radomeref01_Sign.calls (k : Nat) {H : Hp} {L : Items} {a : radomeref01_Num} {v0_a : Value} {r : Int} (he : radomeref01_Sign.f k a = some r) (h0_a : Ro kI64 H v0_a a.f_D) : Ct Tryd.prog 60 ⟨[.agg ⟨[.bool a.f_Neg, v0_a]⟩]⟩ H L (fun v H' L' => L = L' ∧ H = H' ∧ v = .int .i64 r) := by
 refine ct_outs (O := radomeref01_Sign.out r) (fun _ _ h => h) ?_
 have hle : H.le H := .refl _
 unfold radomeref01_Sign.f at he
 refine ct_enter (args := [.agg ⟨[.bool a.f_Neg, v0_a]⟩]) fn_60 rfl nt_60 rfl <| wR rfl <| w_a rfl (o_box (v := .agg ⟨[.bool a.f_Neg, v0_a]⟩) rfl rfl) ?_
 rintro _ _ _ ⟨b1, rfl, rfl, rfl⟩
 refine wA (.int .i64 0) rfl rfl <| wE <| wR rfl <| w_d rfl (d_fld (o' := 1) Tryd.underlying84 rfl sz41 rfl rfl rfl) <| wL v0_a ty41 rfl rfl .here rfl rfl <| w_d rfl (d_len Tryd.underlying41 rfl h0_a.src) <| w_d rfl (d_eql rfl rfl) <| w_done ?_
 rcases its he with ⟨c2, he⟩ | ⟨c2, he⟩
 ·
  refine w_then rfl (dt c2) <| wR rfl <| wA (.int .i64 0) rfl rfl <| w_done ?_
  obtain rfl := sj he
  refine w_return fn_60 rs_60 (.tmp (v := .int .i64 0) rfl .nil) <| ⟨⟨[_], rfl⟩, hle, rfl⟩
 ·
  refine w_else rfl (df c2) <| w_skip <| w_seq <| wR rfl <| w_d rfl (d_fld (o' := 0) Tryd.underlying84 rfl sz4 rfl rfl rfl) <| wL (.bool a.f_Neg) ty4 rfl rfl .here rfl rfl <| w_done ?_
  rcases its he with ⟨c3, he⟩ | ⟨c3, he⟩
  ·
   refine w_then rfl c3 <| wR rfl <| wA (.int .i64 (-1)) rfl rfl <| w_done ?_
   obtain rfl := sj he
   refine w_return fn_60 rs_60 (.tmp (v := .int .i64 (-1)) rfl .nil) <| ⟨⟨[_], rfl⟩, hle, rfl⟩
  ·
   refine w_else rfl (Bool.eq_false_iff.2 c3) <| w_skip <| wR rfl <| wA (.int .i64 1) rfl rfl <| w_done ?_
   obtain rfl := sj he
   refine w_return fn_60 rs_60 (.tmp (v := .int .i64 1) rfl .nil) <| ⟨⟨[_], rfl⟩, hle, rfl⟩
noncomputable def radomeref01_Cmp.C : Code := (Tryd.f58.body).getD .skip
def radomeref01_Cmp.out (r : Int) (H : Hp) (v : Value) : Prop := v = .int .i64 r
noncomputable def radomeref01_Cmp.f (k : Nat) (a : radomeref01_Num) (b : radomeref01_Num) : Option Int := (radomeref01_Sub.f k a b).bind fun y3 => (radomeref01_Sign.f k y3).bind fun y9 => some (y9)
theorem radomeref01_Cmp.calls (k : Nat) {H : Hp} {L : Items} {a : radomeref01_Num} {b : radomeref01_Num} {v0_a : Value} {v1_b : Value} {r : Int} (he : radomeref01_Cmp.f k a b = some r) (h0_a : Ro kI64 H v0_a a.f_D) (h1_b : Ro kI64 H v1_b b.f_D) : Ct Tryd.prog 58 ⟨[.agg ⟨[.bool a.f_Neg, v0_a]⟩, .agg ⟨[.bool b.f_Neg, v1_b]⟩]⟩ H L (fun v H' L' => L = L' ∧ H = H' ∧ v = .int .i64 r) := by
 refine ct_outs (O := radomeref01_Cmp.out r) (fun _ _ h => h) ?_
 have hle : H.le H := .refl _
 unfold radomeref01_Cmp.f at he
 refine ct_enter (args := [.agg ⟨[.bool a.f_Neg, v0_a]⟩, .agg ⟨[.bool b.f_Neg, v1_b]⟩]) fn_58 rfl nt_58 rfl <| wR rfl <| w_a rfl (o_box (v := .agg ⟨[.bool a.f_Neg, v0_a]⟩) rfl rfl) ?_
 rintro _ _ _ ⟨b1, rfl, rfl, rfl⟩
 refine w_a rfl (o_box (v := .agg ⟨[.bool b.f_Neg, v1_b]⟩) rfl rfl) ?_
 rintro _ _ _ ⟨b2, rfl, rfl, rfl⟩
 refine wA (.int .i64 0) rfl rfl <| wQ rfl <| wL (.agg ⟨[.bool a.f_Neg, v0_a]⟩) ty84 rfl rfl (.there .here) rfl rfl <| wL (.agg ⟨[.bool b.f_Neg, v1_b]⟩) ty84 rfl rfl .here rfl rfl ?_
 obtain ⟨y3, hy4, he⟩ := bs he
 refine w_a rfl (o_call co77 (vs := [.agg ⟨[.bool a.f_Neg, v0_a]⟩, .agg ⟨[.bool b.f_Neg, v1_b]⟩]) rfl (radomeref01_Sub.calls k (a := a) (b := b) hy4 h0_a h1_b)) ?_
 rintro _ H5 _ ⟨rfl, e6, ⟨v7, rfl, h8⟩⟩
 obtain ⟨y9, hy10, he⟩ := bs he
 refine w_d rfl (call_d (o_call co60 (vs := [.agg ⟨[.bool y3.f_Neg, v7]⟩]) rfl (radomeref01_Sign.calls k (a := y3) hy10 h8))) <| wA (.int .i64 y9) rfl rfl <| w_done ?_
 obtain rfl := sj he
 refine w_return fn_58 rs_58 (.tmp (v := .int .i64 y9) rfl .nil) <| ⟨⟨[_, _], rfl⟩, hle.trans e6, rfl⟩
noncomputable def radomeref02_Round.C : Code := (Tryd.f40.body).getD .skip
def radomeref02_Round.out (r : radomeref01_Num) (H : Hp) (v : Value) : Prop := ∃ v0, v = .agg ⟨[.bool r.f_Neg, v0]⟩ ∧ Ro kI64 H v0 r.f_D
theorem radomeref02_Round.out_mono (r : radomeref01_Num) {H H' : Hp} {v : Value} (hle : H.le H') (h : radomeref02_Round.out r H v) : radomeref02_Round.out r H' v := by
 obtain ⟨v0, rfl, h0⟩ := h; exact ⟨v0, rfl, h0.mono hle⟩
noncomputable def radomeref02_Round.f (k : Nat) (n : radomeref01_Num) (d : radomeref01_Num) : Option radomeref01_Num := (radomeref01_Div.f k n d).bind fun y4 => (radomeref01_Add.f k y4.2 y4.2).bind fun y14 => (radomeref01_Cmp.f k y14 d).bind fun y22 => (radomeref01_Of.f k 2).bind fun y26 => (radomeref01_Div.f k y4.1 y26).bind fun y32 => (gd ((!(decide (0 < y22))) && (decide (y22 = 0))) (radomeref01_Sign.f k y32.2) (0)).bind fun y61 => if ((decide (0 < y22)) || ((decide (y22 = 0)) && (!decide (y61 = 0)))) = true then ((radomeref01_Of.f k 1).bind fun y68 => (radomeref01_Add.f k y4.1 y68).bind fun y76 => some (y76)) else (some (y4.1))
theorem radomeref02_Round.calls (k : Nat) {H : Hp} {L : Items} {n : radomeref01_Num} {d : radomeref01_Num} {v0_n : Value} {v1_d : Value} {r : radomeref01_Num} (he : radomeref02_Round.f k n d = some r) (h0_n : Ro kI64 H v0_n n.f_D) (h1_d : Ro kI64 H v1_d d.f_D) : Ct Tryd.prog 40 ⟨[.agg ⟨[.bool n.f_Neg, v0_n]⟩, .agg ⟨[.bool d.f_Neg, v1_d]⟩]⟩ H L (cR H L (radomeref02_Round.out r)) := by
 refine ct_out (O := radomeref02_Round.out r) ?_
 have hle : H.le H := .refl _
 unfold radomeref02_Round.f at he
 refine ct_enter (args := [.agg ⟨[.bool n.f_Neg, v0_n]⟩, .agg ⟨[.bool d.f_Neg, v1_d]⟩]) fn_40 rfl nt_40 rfl <| wR rfl <| w_a rfl (o_box (v := .agg ⟨[.bool n.f_Neg, v0_n]⟩) rfl rfl) ?_
 rintro _ _ _ ⟨b1, rfl, rfl, rfl⟩
 refine w_a rfl (o_box (v := .agg ⟨[.bool d.f_Neg, v1_d]⟩) rfl rfl) ?_
 rintro _ _ _ ⟨b2, rfl, rfl, rfl⟩
 refine w_a rfl (o_alloc zr84 rfl) ?_
 rintro _ _ _ ⟨b3, rfl, rfl, rfl⟩
 refine wQ rfl <| wL (.agg ⟨[.bool n.f_Neg, v0_n]⟩) ty84 rfl rfl (.there (.there .here)) rfl rfl <| wL (.agg ⟨[.bool d.f_Neg, v1_d]⟩) ty84 rfl rfl (.there .here) rfl rfl ?_
 obtain ⟨y4, hy5, he⟩ := bs he
 refine w_a rfl (o_call co57 (vs := [.agg ⟨[.bool n.f_Neg, v0_n]⟩, .agg ⟨[.bool d.f_Neg, v1_d]⟩]) rfl (radomeref01_Div.calls k (a := n) (b := d) hy5 h0_n h1_d)) ?_
 rintro _ H6 _ ⟨rfl, e7, ⟨v8, v10, rfl, h9, h11⟩⟩
 refine wM (.tuple ⟨[.agg ⟨[.bool y4.1.f_Neg, v8]⟩, .agg ⟨[.bool y4.2.f_Neg, v10]⟩]⟩) rfl rfl <| w_d rfl (d_ext (vs := [.agg ⟨[.bool y4.1.f_Neg, v8]⟩, .agg ⟨[.bool y4.2.f_Neg, v10]⟩]) rfl rfl) <| w_d rfl (d_ext (vs := [.agg ⟨[.bool y4.1.f_Neg, v8]⟩, .agg ⟨[.bool y4.2.f_Neg, v10]⟩]) rfl rfl) <| w_a rfl (o_alloc zr84 rfl) ?_
 rintro _ _ _ ⟨b12, rfl, rfl, rfl⟩
 refine w_a rfl (o_alloc zr84 rfl) ?_
 rintro _ _ _ ⟨b13, rfl, rfl, rfl⟩
 refine w_a0 rfl (o_store (v := .agg ⟨[.bool y4.1.f_Neg, v8]⟩) sz84 rfl rfl rfl rfl (oc rfl (oc (h9.one) oz)) (.there .here) u2) ?_
 rintro _ _ _ ⟨rfl, rfl, rfl⟩
 refine w_a0 rfl (o_store (v := .agg ⟨[.bool y4.2.f_Neg, v10]⟩) sz84 rfl rfl rfl rfl (oc rfl (oc (h11.one) oz)) .here u2) ?_
 rintro _ _ _ ⟨rfl, rfl, rfl⟩
 refine wE ?_
 obtain ⟨y14, hy15, he⟩ := bs he
 refine w_drawn (p := 4) (tl := [4, 5]) [[], [], [(0, some 16), (1, some 17)], []] [some 16, some 17, some 18, some 19] (fctF (.is (.agg ⟨[.bool y4.2.f_Neg, v10]⟩) :: .is (.agg ⟨[.bool y4.2.f_Neg, v10]⟩) :: .of (radomeref01_Add.out y14) (radomeref01_Add.out_mono _) :: .is (.agg ⟨[.bool d.f_Neg, v1_d]⟩) :: [])) (fun m_ => some (b13, .cells ⟨[.bool y4.2.f_Neg, v10]⟩ 84 (0, 0)) :: some (b12, .cells ⟨[.bool y4.1.f_Neg, v8]⟩ 84 (0, 0)) :: some (b3, .cells ⟨[.bool false, .slice none 0 0]⟩ 84 (0, 0)) :: some (b2, .cells ⟨[.bool d.f_Neg, v1_d]⟩ 84 (0, 0)) :: some (b1, .cells ⟨[.bool n.f_Neg, v0_n]⟩ 84 (0, 0)) :: L) (fun _ => none) mixed (by kernel_rfl) (by kernel_rfl) rfl (fct_mono (by kernel_rfl)) ⟨(fun H' m_ hH hm_ hu_ => dn <| s_d (m_ 0) rfl (d_loado (v := .agg ⟨[.bool y4.2.f_Neg, v10]⟩) ty84 rfl .here rfl rfl rfl rfl) (by exact rfl) rfl), (fun H' m_ hH hm_ hu_ => dn <| s_d (m_ 1) rfl (d_loado (v := .agg ⟨[.bool y4.2.f_Neg, v10]⟩) ty84 rfl .here rfl rfl rfl rfl) (by exact rfl) rfl), (by rintro H' m_ hH hm_ hu_ _ rfl _ rfl; exact dn <| s_k (m_ 2) rfl (o_call co59 (vs := [.agg ⟨[.bool y4.2.f_Neg, v10]⟩, .agg ⟨[.bool y4.2.f_Neg, v10]⟩]) rfl (radomeref01_Add.calls k (a := y4.2) (b := y4.2) hy15 (h11.mono hH) (h11.mono hH))) rfl (by rintro v_ H_ _ ⟨rfl, e_, h_⟩; exact ⟨rfl, e_, h_⟩)), (fun H' m_ hH hm_ hu_ => dn <| s_d (m_ 3) rfl (d_loado (v := .agg ⟨[.bool d.f_Neg, v1_d]⟩) ty84 rfl (.there (.there (.there .here))) rfl rfl rfl rfl) (by exact rfl) rfl), trivial⟩ ?_
 intro H20 e21
 rintro _ _ rfl _ _ rfl _ _ ⟨v18, rfl, h19⟩ _ _ rfl
 obtain ⟨y22, hy23, he⟩ := bs he
 refine w_d rfl (call_d (o_call co58 (vs := [.agg ⟨[.bool y14.f_Neg, v18]⟩, .agg ⟨[.bool d.f_Neg, v1_d]⟩]) rfl (radomeref01_Cmp.calls k (a := y14) (b := d) hy23 h19 (h1_d.mono (e7.trans e21))))) <| wA (.int .i64 y22) rfl rfl <| wE ?_
 obtain ⟨y26, hy27, he⟩ := bs he
 obtain ⟨y32, hy33, he⟩ := bs he
 refine w_none (w_none (?_))
 refine w_drawn (p := 9) (tl := [9]) [[], [], [(0, some 22), (1, some 23)], [(2, some 24)], [(3, some 21)], [(3, some 21)], [], [], [(4, some 25), (6, some 8)]] [some 22, some 23, some 24, some 21, some 25, some 26, some 8, some 9, none] (fctF (.is (.agg ⟨[.bool y4.1.f_Neg, v8]⟩) :: .of (radomeref01_Of.out y26) (radomeref01_Of.out_mono _) :: .of (radomeref01_Div.out y32) (radomeref01_Div.out_mono _) :: .of (fun H v => ∃ v40, ∃ v42, v = .tuple ⟨[.agg ⟨[.bool y32.1.f_Neg, v40]⟩, .agg ⟨[.bool y32.2.f_Neg, v42]⟩]⟩ ∧ Ro kI64 H v40 y32.1.f_D ∧ Ro kI64 H v42 y32.2.f_D) (by rintro _ _ _ hle ⟨v40, v42, rfl, h41, h43⟩; exact ⟨v40, v42, rfl, h41.mono hle, h43.mono hle⟩) :: .of (fun H v => ∃ v44, v = .agg ⟨[.bool y32.1.f_Neg, v44]⟩ ∧ Ro kI64 H v44 y32.1.f_D) (by rintro _ _ _ hle ⟨v44, rfl, h45⟩; exact ⟨v44, rfl, h45.mono hle⟩) :: .of (fun H v => ∃ v46, v = .agg ⟨[.bool y32.2.f_Neg, v46]⟩ ∧ Ro kI64 H v46 y32.2.f_D) (by rintro _ _ _ hle ⟨v46, rfl, h47⟩; exact ⟨v46, rfl, h47.mono hle⟩) :: .box 84 [.bool false, .slice none 0 0] :: .box 84 [.bool false, .slice none 0 0] :: .st 6 (fun H bq_ itq_ => ∃ v50, itq_ = some (bq_, .cells ⟨[.bool y32.1.f_Neg, v50]⟩ 84 (0, 0)) ∧ Ro kI64 H v50 y32.1.f_D) (by rintro _ _ _ _ hle ⟨v50, rfl, h51⟩; exact ⟨v50, rfl, h51.mono hle⟩) :: [])) (fun m_ => pk (m_ 8) (m_ 6) :: m_ 7 :: some (b13, .cells ⟨[.bool y4.2.f_Neg, v10]⟩ 84 (0, 0)) :: some (b12, .cells ⟨[.bool y4.1.f_Neg, v8]⟩ 84 (0, 0)) :: some (b3, .cells ⟨[.bool false, .slice none 0 0]⟩ 84 (0, 0)) :: some (b2, .cells ⟨[.bool d.f_Neg, v1_d]⟩ 84 (0, 0)) :: some (b1, .cells ⟨[.bool n.f_Neg, v0_n]⟩ 84 (0, 0)) :: L) (fun _ => none) mixed (by kernel_rfl) (by kernel_rfl) rfl (fct_mono (by kernel_rfl)) ⟨(fun H' m_ hH hm_ hu_ => dn <| s_d (m_ 0) rfl (d_loado (v := .agg ⟨[.bool y4.1.f_Neg, v8]⟩) ty84 rfl (.there (.there (.there .here))) rfl rfl rfl rfl) (by exact rfl) rfl), (fun H' m_ hH hm_ hu_ => dn <| s_k (m_ 1) rfl (o_call co41 (vs := [.int .i64 2]) rfl (radomeref01_Of.calls k hy27)) rfl (by rintro v_ H_ _ ⟨rfl, e_, h_⟩; exact ⟨rfl, e_, h_⟩)), (by rintro H' m_ hH hm_ hu_ _ rfl _ ⟨v30, rfl, h31⟩; exact dn <| s_k (m_ 2) rfl (o_call co57 (vs := [.agg ⟨[.bool y4.1.f_Neg, v8]⟩, .agg ⟨[.bool y26.f_Neg, v30]⟩]) rfl (radomeref01_Div.calls k (a := y4.1) (b := y26) hy33 (h9.mono (e21.trans hH)) h31)) rfl (by rintro v_ H_ _ ⟨rfl, e_, h_⟩; exact ⟨rfl, e_, h_⟩)), (by rintro H' m_ hH hm_ hu_ _ ⟨v36, v38, rfl, h37, h39⟩; exact dn <| s_d (m_ 3) rfl (d_move (v := .tuple ⟨[.agg ⟨[.bool y32.1.f_Neg, v36]⟩, .agg ⟨[.bool y32.2.f_Neg, v38]⟩]⟩) rfl) (by exact ⟨v36, v38, rfl, h37, h39⟩) rfl), (by rintro H' m_ hH hm_ hu_ _ ⟨v40, v42, rfl, h41, h43⟩; exact dn <| s_d (m_ 4) rfl (d_ext (vs := [.agg ⟨[.bool y32.1.f_Neg, v40]⟩, .agg ⟨[.bool y32.2.f_Neg, v42]⟩]) rfl rfl) (by exact ⟨v40, rfl, h41⟩) rfl), (by rintro H' m_ hH hm_ hu_ _ ⟨v40, v42, rfl, h41, h43⟩; exact dn <| s_d (m_ 5) rfl (d_ext (vs := [.agg ⟨[.bool y32.1.f_Neg, v40]⟩, .agg ⟨[.bool y32.2.f_Neg, v42]⟩]) rfl rfl) (by exact ⟨v42, rfl, h43⟩) rfl), (fun H' m_ hH hm_ hu_ => dn <| s_box hm_ rfl rfl (o_alloc zr84 rfl) rfl (fun _ => (pk_upd (hu_ 8 (by kernel_rfl)))) (by exact fun b_ => ⟨b_, rfl, rfl⟩)), (fun H' m_ hH hm_ hu_ => dn <| s_box hm_ rfl rfl (o_alloc zr84 rfl) rfl (fun _ => (.there .here)) (by exact fun b_ => ⟨b_, rfl, rfl⟩)), (by rintro H' m_ hH hm_ hu_ _ ⟨v44, rfl, h45⟩ _ ⟨b48, rfl, hb48_⟩; exact dn <| s_store2 (Λ' := fun z_ => z_ :: m_ 7 :: some (b13, .cells ⟨[.bool y4.2.f_Neg, v10]⟩ 84 (0, 0)) :: some (b12, .cells ⟨[.bool y4.1.f_Neg, v8]⟩ 84 (0, 0)) :: some (b3, .cells ⟨[.bool false, .slice none 0 0]⟩ 84 (0, 0)) :: some (b2, .cells ⟨[.bool d.f_Neg, v1_d]⟩ 84 (0, 0)) :: some (b1, .cells ⟨[.bool n.f_Neg, v0_n]⟩ 84 (0, 0)) :: L) (some (b48, .cells ⟨[.bool y32.1.f_Neg, v44]⟩ 84 (0, 0))) hm_ rfl hb48_ rfl (o_store (v := .agg ⟨[.bool y32.1.f_Neg, v44]⟩) sz84 rfl rfl rfl rfl (oc rfl (oc (h45.one) oz)) .here u2) rfl rfl (by exact ⟨rfl, v44, congrArg (fun b_ => (some (b_, Obj.cells ⟨[.bool y32.1.f_Neg, v44]⟩ 84 (0, 0)) : Item')) (bof_eq hb48_).symm, h45⟩)), trivial⟩ ?_
 intro H54 e55
 rintro _ _ rfl _ _ ⟨v30, rfl, h31⟩ _ _ ⟨v36, v38, rfl, h37, h39⟩ _ _ ⟨v40, v42, rfl, h41, h43⟩ _ _ ⟨v44, rfl, h45⟩ _ _ ⟨v46, rfl, h47⟩ _ _ ⟨b48, rfl, rfl⟩ _ _ ⟨b49, rfl, rfl⟩ _ i52 ⟨rfl, v50, h53, h51⟩
 replace h53 : i52 = some (b48, .cells ⟨[.bool y32.1.f_Neg, v50]⟩ 84 (0, 0)) := h53
 subst h53
 refine w_it (L' := some (b48, .cells ⟨[.bool y32.1.f_Neg, v50]⟩ 84 (0, 0)) :: some (b49, .cells ⟨[.bool false, .slice none 0 0]⟩ 84 (0, 0)) :: some (b13, .cells ⟨[.bool y4.2.f_Neg, v10]⟩ 84 (0, 0)) :: some (b12, .cells ⟨[.bool y4.1.f_Neg, v8]⟩ 84 (0, 0)) :: some (b3, .cells ⟨[.bool false, .slice none 0 0]⟩ 84 (0, 0)) :: some (b2, .cells ⟨[.bool d.f_Neg, v1_d]⟩ 84 (0, 0)) :: some (b1, .cells ⟨[.bool n.f_Neg, v0_n]⟩ 84 (0, 0)) :: L) rfl <| w_a0 rfl (o_store (v := .agg ⟨[.bool y32.2.f_Neg, v46]⟩) sz84 rfl rfl rfl rfl (oc rfl (oc (h47.one) oz)) (.there .here) u2) ?_
 rintro _ _ _ ⟨rfl, rfl, rfl⟩
 refine wE <| wR rfl <| wM (.int .i64 y22) rfl rfl <| w_d rfl (d_gtr rfl rfl) <| wM (.bool (decide (0 < y22))) rfl rfl <| w_g (g := !(decide (0 < y22))) rfl rfl rfl wn_f (fun g56 => d_move (v := .int .i64 y22) rfl) <| w_g (g := !(decide (0 < y22))) rfl rfl rfl wn_f (fun g57 => d_eql (cvt g57) rfl) <| w_g (g := !(decide (0 < y22))) rfl rfl rfl wn_f (fun g58 => d_move (v := .bool (decide (y22 = 0))) (cvt g58)) <| w_g (g := (!(decide (0 < y22))) && (decide (y22 = 0))) rfl rfl rfl wn_gt (fun g59 => d_loado (v := .agg ⟨[.bool y32.2.f_Neg, v46]⟩) ty84 rfl (.there .here) rfl rfl rfl rfl) ?_
 obtain ⟨y61, hy62, he⟩ := bs he
 refine w_g (g := (!(decide (0 < y22))) && (decide (y22 = 0))) rfl rfl rfl wn_gt (fun g60 => call_d (o_call co60 (vs := [.agg ⟨[.bool y32.2.f_Neg, v46]⟩]) (acons (cvt g60) (anil)) (radomeref01_Sign.calls k (a := y32.2) (gd_t g60 hy62) h47))) <| w_g (g := (!(decide (0 < y22))) && (decide (y22 = 0))) rfl rfl rfl wn_gt (fun g65 => d_neq (cvt g65) rfl) <| w_g (g := !(decide (0 < y22))) rfl rfl rfl wn_f (fun g66 => d_and' (b := (decide (y22 = 0))) (p := (!decide (y61 = 0))) (cvt g66) (cva g66) rfl) <| w_d rfl (d_or' (b := (decide (0 < y22))) (p := ((decide (y22 = 0)) && (!decide (y61 = 0)))) rfl rfl rfl) <| w_done ?_
 rcases its he with ⟨c67, he⟩ | ⟨c67, he⟩
 ·
  refine w_then rfl c67 <| w_seq ?_
  obtain ⟨y68, hy69, he⟩ := bs he
  refine w_drawn (p := 2) (tl := [2, 3]) [[], []] [some 38, some 39] (fctF (.is (.agg ⟨[.bool y4.1.f_Neg, v8]⟩) :: .of (radomeref01_Of.out y68) (radomeref01_Of.out_mono _) :: [])) (fun m_ => some (b48, .cells ⟨[.bool y32.1.f_Neg, v50]⟩ 84 (0, 0)) :: some (b49, .cells ⟨[.bool y32.2.f_Neg, v46]⟩ 84 (0, 0)) :: some (b13, .cells ⟨[.bool y4.2.f_Neg, v10]⟩ 84 (0, 0)) :: some (b12, .cells ⟨[.bool y4.1.f_Neg, v8]⟩ 84 (0, 0)) :: some (b3, .cells ⟨[.bool false, .slice none 0 0]⟩ 84 (0, 0)) :: some (b2, .cells ⟨[.bool d.f_Neg, v1_d]⟩ 84 (0, 0)) :: some (b1, .cells ⟨[.bool n.f_Neg, v0_n]⟩ 84 (0, 0)) :: L) (fun _ => none) mixed (by kernel_rfl) (by kernel_rfl) rfl (fct_mono (by kernel_rfl)) ⟨(fun H' m_ hH hm_ hu_ => dn <| s_d (m_ 0) rfl (d_loado (v := .agg ⟨[.bool y4.1.f_Neg, v8]⟩) ty84 rfl (.there (.there (.there .here))) rfl rfl rfl rfl) (by exact rfl) rfl), (fun H' m_ hH hm_ hu_ => dn <| s_k (m_ 1) rfl (o_call co41 (vs := [.int .i64 1]) rfl (radomeref01_Of.calls k hy69)) rfl (by rintro v_ H_ _ ⟨rfl, e_, h_⟩; exact ⟨rfl, e_, h_⟩)), trivial⟩ ?_
  intro H74 e75
  rintro _ _ rfl _ _ ⟨v72, rfl, h73⟩
  obtain ⟨y76, hy77, he⟩ := bs he
  refine w_a rfl (o_call co59 (vs := [.agg ⟨[.bool y4.1.f_Neg, v8]⟩, .agg ⟨[.bool y68.f_Neg, v72]⟩]) rfl (radomeref01_Add.calls k (a := y4.1) (b := y68) hy77 (h9.mono ((e21.trans e55).trans e75)) h73)) ?_
  rintro _ H78 _ ⟨rfl, e79, ⟨v80, rfl, h81⟩⟩
  refine w_a0 rfl (o_store (v := .agg ⟨[.bool y76.f_Neg, v80]⟩) sz84 rfl rfl rfl rfl (oc rfl (oc (h81.one) oz)) (.there (.there (.there (.there .here)))) u2) ?_
  rintro _ _ _ ⟨rfl, rfl, rfl⟩
  refine w_done ?_
  obtain rfl := sj he
  refine w_return fn_40 rs_40 (.box (v := .agg ⟨[.bool y76.f_Neg, v80]⟩) rfl ty84 rfl rfl (.there (.there (.there (.there .here)))) rfl .nil) <| ⟨⟨[_, _, _, _, _, _, _], rfl⟩, hle.trans ((((e7.trans e21).trans e55).trans e75).trans e79), ⟨v80, rfl, h81⟩⟩
 ·
  refine w_else rfl (Bool.eq_false_iff.2 c67) <| w_skip <| wR rfl <| wL (.agg ⟨[.bool y4.1.f_Neg, v8]⟩) ty84 rfl rfl (.there (.there (.there .here))) rfl rfl <| w_a0 rfl (o_store (v := .agg ⟨[.bool y4.1.f_Neg, v8]⟩) sz84 rfl rfl rfl rfl (oc rfl (oc (h9.one) oz)) (.there (.there (.there (.there .here)))) u2) ?_
  rintro _ _ _ ⟨rfl, rfl, rfl⟩
  refine w_done ?_
  obtain rfl := sj he
  refine w_return fn_40 rs_40 (.box (v := .agg ⟨[.bool y4.1.f_Neg, v8]⟩) rfl ty84 rfl rfl (.there (.there (.there (.there .here)))) rfl .nil) <| ⟨⟨[_, _, _, _, _, _, _], rfl⟩, hle.trans ((e7.trans e21).trans e55), ⟨v8, rfl, (h9.mono (e21.trans e55))⟩⟩
noncomputable def radomeref03_Small.C : Code := (Tryd.f39.body).getD .skip
def radomeref03_Small.out (r : Int) (H : Hp) (v : Value) : Prop := v = .int .i64 r
abbrev radomeref03_Small.R (H0 : Hp) (L : Items) (r : Int) := fR H0 L (radomeref03_Small.out r)
structure radomeref03_Small.Hs where
 l0 : Bool → (List Int) → Int → Int → Option Int
noncomputable def radomeref03_Small.b0 (k : Nat) (h : radomeref03_Small.Hs)  (n_0 : Bool) (n_1 : List Int) (v_ : Int) (i : Int) : Option Int := if 0 ≤ i then (if (0 : Int) ≤ i ∧ i < (n_1.length : Int) then (h.l0 n_0 n_1 (w64 ((w64 (10 * v_)) - (rd n_1 i))) (w64 (i - 1))) else none) else (if n_0 = true then (some (v_)) else (some (w64 (0 - v_))))
noncomputable def radomeref03_Small.hs : Nat → radomeref03_Small.Hs
 | 0 => ⟨fun _ _ _ _ => none⟩
 | k + 1 => ⟨fun x0 x1 x2 x3 => radomeref03_Small.b0 k (radomeref03_Small.hs k) x0 x1 x2 x3⟩
noncomputable def radomeref03_Small.f (k : Nat) (n : radomeref01_Num) : Option Int := (fun h : radomeref03_Small.Hs => h.l0 n.f_Neg n.f_D 0 (w64 ((n.f_D.length : Int) - 1))) (radomeref03_Small.hs k)
noncomputable def radomeref03_Small.Kl0 : List Item := .code (lopB (blkB (seqR (seqL (seqR (seqR radomeref03_Small.C)))))) :: .inLoop (lopB (blkB (seqR (seqL (seqR (seqR radomeref03_Small.C)))))) :: .inBlock 0 :: .code (seqR (seqR (seqR radomeref03_Small.C))) :: []
structure radomeref03_Small.OK (h : radomeref03_Small.Hs) : Prop where
 l0 : ∀ {H0 H : Hp} {L : Items} {r : Int} {jk_ : Nat → Value} {n_0 : Bool} {n_1 : List Int} {v_ : Int} {i : Int} {v_n_1 : Value} {b_n : Nat} (_ : H0.le H) (_he : h.l0 n_0 n_1 v_ i = some r) (_h_n_1 : Ro kI64 H v_n_1 n_1), Wp Tryd.prog 39 26 radomeref03_Small.Kl0 (upd (upd (upd (upd jk_ 1 (.pointer (some ⟨b_n, 0, none⟩))) 2 (.int .i64 0)) 3 (.int .i64 v_)) 4 (.int .i64 i)) H (some (b_n, .cells ⟨[.bool n_0, v_n_1]⟩ 84 (0, 0)) :: L) (radomeref03_Small.R H0 L r)
theorem radomeref03_Small.b0_ok {k : Nat} {h : radomeref03_Small.Hs} (hh : radomeref03_Small.OK h) {H0 H : Hp} {L : Items} {r : Int} {jk_ : Nat → Value} {n_0 : Bool} {n_1 : List Int} {v_ : Int} {i : Int} {v_n_1 : Value} {b_n : Nat} (hle : H0.le H) (he : radomeref03_Small.b0 k h n_0 n_1 v_ i = some r) (h_n_1 : Ro kI64 H v_n_1 n_1) : Wp Tryd.prog 39 26 radomeref03_Small.Kl0 (upd (upd (upd (upd jk_ 1 (.pointer (some ⟨b_n, 0, none⟩))) 2 (.int .i64 0)) 3 (.int .i64 v_)) 4 (.int .i64 i)) H (some (b_n, .cells ⟨[.bool n_0, v_n_1]⟩ 84 (0, 0)) :: L) (radomeref03_Small.R H0 L r) := by
 unfold radomeref03_Small.b0 at he
 unfold radomeref03_Small.Kl0
 refine w_seq <| wR rfl <| wM (.int .i64 i) rfl rfl <| w_d rfl (d_geq rfl rfl) <| w_done ?_
 rcases its he with ⟨c2, he⟩ | ⟨c2, he⟩
 ·
  refine w_then rfl (dt c2) <| w_skip <| w_seq <| w_block <| w_region rfl <| wM (.int .i64 v_) rfl rfl <| w_d rfl (d_mul (c := w64 (10 * v_)) rfl rfl rfl) <| w_d rfl (d_fld (o' := 1) Tryd.underlying84 rfl sz41 rfl rfl rfl) <| wL v_n_1 ty41 rfl rfl .here rfl rfl <| wM (.int .i64 i) rfl rfl ?_
  obtain ⟨c3, he⟩ := rq he
  refine w_d rfl (d_index (sz := 1) Tryd.underlying41 sz3 rfl h_n_1.src rfl c3) <| w_d rfl (d_ldint ty3 rfl h_n_1.src c3) <| w_d rfl (d_sub (c := w64 ((w64 (10 * v_)) - (rd n_1 i))) rfl rfl rfl) <| wA (.int .i64 (w64 ((w64 (10 * v_)) - (rd n_1 i)))) rfl rfl <| w_done <| w_inBlock <| w_region rfl <| wM (.int .i64 i) rfl rfl <| w_d rfl (d_sub (c := w64 (i - 1)) rfl rfl rfl) <| wA (.int .i64 (w64 (i - 1))) rfl rfl <| w_done <| w_inLoop ?_
  refine w_sl 1 (.pointer (some ⟨b_n, 0, none⟩)) rfl <| w_sl 2 (.int .i64 0) rfl <| w_sl 3 (.int .i64 (w64 ((w64 (10 * v_)) - (rd n_1 i)))) rfl <| w_sl 4 (.int .i64 (w64 (i - 1))) rfl <| hh.l0 hle he h_n_1
 ·
  refine w_else rfl (df c2) <| w_exit rfl <| w_seq <| wR rfl <| w_d rfl (d_fld (o' := 0) Tryd.underlying84 rfl sz4 rfl rfl rfl) <| wL (.bool n_0) ty4 rfl rfl .here rfl rfl <| w_done ?_
  rcases its he with ⟨c4, he⟩ | ⟨c4, he⟩
  ·
   refine w_then rfl c4 <| wR rfl <| wM (.int .i64 v_) rfl rfl <| wA (.int .i64 v_) rfl rfl <| w_done ?_
   obtain rfl := sj he
   refine w_return fn_39 rs_39 (.tmp (v := .int .i64 v_) rfl .nil) <| ⟨⟨[_], rfl⟩, hle, rfl⟩
  ·
   refine w_else rfl (Bool.eq_false_iff.2 c4) <| w_skip <| wR rfl <| wM (.int .i64 v_) rfl rfl <| w_d rfl (d_sub (c := w64 (0 - v_)) rfl rfl rfl) <| wA (.int .i64 (w64 (0 - v_))) rfl rfl <| w_done ?_
   obtain rfl := sj he
   refine w_return fn_39 rs_39 (.tmp (v := .int .i64 (w64 (0 - v_))) rfl .nil) <| ⟨⟨[_], rfl⟩, hle, rfl⟩
theorem radomeref03_Small.ok : ∀ k, radomeref03_Small.OK (radomeref03_Small.hs k)
 | 0 => ⟨(by intros; exact nomatch (show none = some _ from by assumption))⟩
 | k + 1 => ⟨radomeref03_Small.b0_ok (k := k) (radomeref03_Small.ok k)⟩
theorem radomeref03_Small.calls (k : Nat) {H : Hp} {L : Items} {n : radomeref01_Num} {v0_n : Value} {r : Int} (he : radomeref03_Small.f k n = some r) (h0_n : Ro kI64 H v0_n n.f_D) : Ct Tryd.prog 39 ⟨[.agg ⟨[.bool n.f_Neg, v0_n]⟩]⟩ H L (fun v H' L' => L = L' ∧ H = H' ∧ v = .int .i64 r) := by
 refine ct_outs (O := radomeref03_Small.out r) (fun _ _ h => h) ?_
 have hle : H.le H := .refl _
 have hh := radomeref03_Small.ok k
 unfold radomeref03_Small.f at he
 refine ct_enter (args := [.agg ⟨[.bool n.f_Neg, v0_n]⟩]) fn_39 rfl nt_39 rfl <| wR rfl <| w_a rfl (o_box (v := .agg ⟨[.bool n.f_Neg, v0_n]⟩) rfl rfl) ?_
 rintro _ _ _ ⟨b1, rfl, rfl, rfl⟩
 refine wA (.int .i64 0) rfl rfl <| wQ rfl <| wA (.int .i64 0) rfl rfl <| wE <| wR rfl <| w_d rfl (d_fld (o' := 1) Tryd.underlying84 rfl sz41 rfl rfl rfl) <| wL v0_n ty41 rfl rfl .here rfl rfl <| w_d rfl (d_len Tryd.underlying41 rfl h0_n.src) ?_
 refine w_d rfl (d_sub (c := w64 ((n.f_D.length : Int) - 1)) rfl rfl rfl) <| wA (.int .i64 (w64 ((n.f_D.length : Int) - 1))) rfl rfl <| w_done <| w_block <| w_loop <| w_sl 1 (.pointer (some ⟨b1, 0, none⟩)) rfl <| w_sl 2 (.int .i64 0) rfl <| w_sl 3 (.int .i64 0) rfl <| w_sl 4 (.int .i64 (w64 ((n.f_D.length : Int) - 1))) rfl <| hh.l0 hle he h0_n
noncomputable def radomeref29_Near.C : Code := (Tryd.f14.body).getD .skip
def radomeref29_Near.out (r : Int) (H : Hp) (v : Value) : Prop := v = .int .i64 r
noncomputable def radomeref29_Near.f (k : Nat) (n : Int) (bits : Int) (low : Int) (high : Int) : Option Int := (radomeref01_Of.f k n).bind fun y1 => (radomeref01_Two.f k bits).bind fun y7 => (radomeref02_Round.f k y1 y7).bind fun y13 => (radomeref03_Small.f k y13).bind fun y19 => if y19 < low then (some (low)) else (if high < y19 then (some (high)) else (some (y19)))
theorem radomeref29_Near.calls (k : Nat) {H : Hp} {L : Items} {n : Int} {bits : Int} {low : Int} {high : Int} {r : Int} (he : radomeref29_Near.f k n bits low high = some r) : Ct Tryd.prog 14 ⟨[.int .i64 n, .int .i64 bits, .int .i64 low, .int .i64 high]⟩ H L (fun v H' L' => L = L' ∧ H = H' ∧ v = .int .i64 r) := by
 refine ct_outs (O := radomeref29_Near.out r) (fun _ _ h => h) ?_
 have hle : H.le H := .refl _
 unfold radomeref29_Near.f at he
 refine ct_enter (args := [.int .i64 n, .int .i64 bits, .int .i64 low, .int .i64 high]) fn_14 rfl nt_14 rfl <| wR rfl <| wA (.int .i64 0) rfl rfl <| wQ rfl <| wM (.int .i64 n) rfl rfl ?_
 obtain ⟨y1, hy2, he⟩ := bs he
 refine w_a rfl (o_call co41 (vs := [.int .i64 n]) rfl (radomeref01_Of.calls k hy2)) ?_
 rintro _ H3 _ ⟨rfl, e4, ⟨v5, rfl, h6⟩⟩
 refine wM (.int .i64 bits) rfl rfl ?_
 obtain ⟨y7, hy8, he⟩ := bs he
 refine w_a rfl (o_call co42 (vs := [.int .i64 bits]) rfl (radomeref01_Two.calls k hy8)) ?_
 rintro _ H9 _ ⟨rfl, e10, ⟨v11, rfl, h12⟩⟩
 obtain ⟨y13, hy14, he⟩ := bs he
 refine w_a rfl (o_call co40 (vs := [.agg ⟨[.bool y1.f_Neg, v5]⟩, .agg ⟨[.bool y7.f_Neg, v11]⟩]) rfl (radomeref02_Round.calls k (n := y1) (d := y7) hy14 (h6.mono e10) h12)) ?_
 rintro _ H15 _ ⟨rfl, e16, ⟨v17, rfl, h18⟩⟩
 obtain ⟨y19, hy20, he⟩ := bs he
 refine w_d rfl (call_d (o_call co39 (vs := [.agg ⟨[.bool y13.f_Neg, v17]⟩]) rfl (radomeref03_Small.calls k (n := y13) hy20 h18))) <| wA (.int .i64 y19) rfl rfl <| wE <| wR rfl <| wM (.int .i64 y19) rfl rfl <| wM (.int .i64 low) rfl rfl <| w_d rfl (d_lss rfl rfl) <| w_done ?_
 rcases its he with ⟨c23, he⟩ | ⟨c23, he⟩
 ·
  refine w_then rfl (dt c23) <| wR rfl <| wM (.int .i64 low) rfl rfl <| wA (.int .i64 low) rfl rfl <| w_done ?_
  obtain rfl := sj he
  refine w_return fn_14 rs_14 (.tmp (v := .int .i64 low) rfl .nil) <| ⟨⟨[], rfl⟩, hle.trans ((e4.trans e10).trans e16), rfl⟩
 ·
  refine w_else rfl (df c23) <| w_skip <| w_seq <| wR rfl <| wM (.int .i64 y19) rfl rfl <| wM (.int .i64 high) rfl rfl <| w_d rfl (d_gtr rfl rfl) <| w_done ?_
  rcases its he with ⟨c24, he⟩ | ⟨c24, he⟩
  ·
   refine w_then rfl (dt c24) <| wR rfl <| wM (.int .i64 high) rfl rfl <| wA (.int .i64 high) rfl rfl <| w_done ?_
   obtain rfl := sj he
   refine w_return fn_14 rs_14 (.tmp (v := .int .i64 high) rfl .nil) <| ⟨⟨[], rfl⟩, hle.trans ((e4.trans e10).trans e16), rfl⟩
  ·
   refine w_else rfl (df c24) <| w_skip <| wR rfl <| wM (.int .i64 y19) rfl rfl <| wA (.int .i64 y19) rfl rfl <| w_done ?_
   obtain rfl := sj he
   refine w_return fn_14 rs_14 (.tmp (v := .int .i64 y19) rfl .nil) <| ⟨⟨[], rfl⟩, hle.trans ((e4.trans e10).trans e16), rfl⟩
noncomputable def radomelaw29_ReportWrites.C : Code := (Tryd.f3.body).getD .skip
def radomelaw29_ReportWrites.out (r : Bool) (H : Hp) (v : Value) : Prop := v = .bool r
noncomputable def radomelaw29_ReportWrites.f (k : Nat) (source : Int) (l : List radomeref29_Report) (of_ : T24) : Option Bool := if 600 < (l.length : Int) then ((radomelaw29_sure.f k).bind fun y3 => some (y3)) else ((radomelaw29_giveReports.f k l).bind fun y7 => (cat062_Encode.f k source y7).bind fun y13 => (radomeref29_Encode.f k source l).bind fun y19 => (gd ((decide ((strOf y13.1) = (strOf y19.1))) && (decide ((errN y13.2) = y19.2))) (cat062_Place.f k of_.e0) (0)).bind fun y32 => (gd ((decide ((strOf y13.1) = (strOf y19.1))) && (decide ((errN y13.2) = y19.2))) (radomeref29_Near.f k of_.e0 19 (-8388608) 8388607) (0)).bind fun y40 => (gd (((decide ((strOf y13.1) = (strOf y19.1))) && (decide ((errN y13.2) = y19.2))) && (decide ((w64 (y32)) = y40))) (cat062_Speed.f k of_.e1) (0)).bind fun y48 => (gd (((decide ((strOf y13.1) = (strOf y19.1))) && (decide ((errN y13.2) = y19.2))) && (decide ((w64 (y32)) = y40))) (radomeref29_Near.f k of_.e1 18 (-32768) 32767) (0)).bind fun y56 => (gd ((((decide ((strOf y13.1) = (strOf y19.1))) && (decide ((errN y13.2) = y19.2))) && (decide ((w64 (y32)) = y40))) && (decide ((w64 (y48)) = y56))) (radomelaw29_sure.f k) (false)).bind fun y64 => some (((((decide ((strOf y13.1) = (strOf y19.1))) && (decide ((errN y13.2) = y19.2))) && (decide ((w64 (y32)) = y40))) && (decide ((w64 (y48)) = y56))) && y64))
theorem radomelaw29_ReportWrites.calls (k : Nat) {H : Hp} {L : Items} {source : Int} {l : List radomeref29_Report} {of_ : T24} {v0_l : Value} {r : Bool} (hG : GH H) (he : radomelaw29_ReportWrites.f k source l of_ = some r) (h0_l : Ro k_radomeref29_Report H v0_l l) : Ct Tryd.prog 3 ⟨[.int .u16 source, v0_l, .agg ⟨[.int .i64 of_.e0, .int .i64 of_.e1]⟩]⟩ H L (fun v H' L' => L = L' ∧ H = H' ∧ v = .bool r) := by
 refine ct_outs (O := radomelaw29_ReportWrites.out r) (fun _ _ h => h) ?_
 have hle : H.le H := .refl _
 unfold radomelaw29_ReportWrites.f at he
 refine ct_enter (args := [.int .u16 source, v0_l, .agg ⟨[.int .i64 of_.e0, .int .i64 of_.e1]⟩]) fn_3 rfl nt_3 rfl <| wR rfl <| w_a rfl (o_box (v := .agg ⟨[.int .i64 of_.e0, .int .i64 of_.e1]⟩) rfl rfl) ?_
 rintro _ _ _ ⟨b1, rfl, rfl, rfl⟩
 refine wA (.bool false) rfl rfl <| wE <| wR rfl <| wM v0_l rfl rfl <| w_d rfl (d_len Tryd.underlying23 rfl h0_l.src) <| w_d rfl (d_gtr rfl rfl) <| w_done ?_
 rcases its he with ⟨c2, he⟩ | ⟨c2, he⟩
 ·
  refine w_then rfl (dt c2) <| wR rfl ?_
  obtain ⟨y3, hy4, he⟩ := bs he
  refine w_d rfl (call_d (o_call co8 (vs := []) rfl (radomelaw29_sure.calls k hy4))) <| wA (.bool y3) rfl rfl <| w_done ?_
  obtain rfl := sj he
  refine w_return fn_3 rs_3 (.tmp (v := .bool y3) rfl .nil) <| ⟨⟨[_], rfl⟩, hle, rfl⟩
 ·
  refine w_else rfl (df c2) <| w_skip <| wR rfl <| wM (.int .u16 source) rfl rfl <| wM v0_l rfl rfl ?_
  obtain ⟨y7, hy8, he⟩ := bs he
  refine w_a rfl (o_call co10 (vs := [v0_l]) rfl (radomelaw29_giveReports.calls k hy8 h0_l.src)) ?_
  rintro v11 H9 _ ⟨rfl, e10, h12⟩
  obtain ⟨y13, hy14, he⟩ := bs he
  refine w_a rfl (o_call co9 (vs := [.int .u16 source, v11]) rfl (cat062_Encode.calls k hy14 h12.src)) ?_
  rintro _ H15 _ ⟨rfl, e16, ⟨v17, rfl, h18⟩⟩
  refine wM (.tuple ⟨[v17, errV 73 y13.2]⟩) rfl rfl <| w_d rfl (d_ext (vs := [v17, errV 73 y13.2]) rfl rfl) <| w_d rfl (d_ext (vs := [v17, errV 73 y13.2]) rfl rfl) <| wA v17 rfl rfl <| wA (errV 73 y13.2) rfl rfl <| wQ rfl <| wM (.int .u16 source) rfl rfl <| wM v0_l rfl rfl ?_
  obtain ⟨y19, hy20, he⟩ := bs he
  refine w_a rfl (o_call co11 (vs := [.int .u16 source, v0_l]) rfl (radomeref29_Encode.calls k hy20 ((h0_l.mono (e10.trans e16)).src))) ?_
  rintro _ H21 _ ⟨rfl, e22, ⟨v23, rfl, h24⟩⟩
  refine wM (.tuple ⟨[v23, .int .i64 y19.2]⟩) rfl rfl <| w_d rfl (d_ext (vs := [v23, .int .i64 y19.2]) rfl rfl) <| w_d rfl (d_ext (vs := [v23, .int .i64 y19.2]) rfl rfl) <| wA v23 rfl rfl <| wA (.int .i64 y19.2) rfl rfl <| wE ?_
  obtain ⟨y32, hy33, he⟩ := bs he
  obtain ⟨y40, hy41, he⟩ := bs he
  obtain ⟨y48, hy49, he⟩ := bs he
  obtain ⟨y56, hy57, he⟩ := bs he
  refine w_drawn (p := 29) (tl := [29, 30, 31, 32, 33, 34]) [[], [(0, some 28)], [], [(2, some 30)], [(1, some 29), (3, some 31)], [(4, some 32)], [(5, some 33)], [(5, some 33), (6, some 34)], [(5, some 33)], [(5, some 33), (7, some 35), (8, some 36)], [(5, some 33), (9, some 37)], [(10, some 38)], [(11, some 39)], [(11, some 39), (12, some 40)], [(11, some 39), (13, some 41)], [(11, some 39), (14, some 42)], [(11, some 39)], [(11, some 39), (16, some 44)], [(11, some 39), (17, some 45)], [(11, some 39), (15, some 43), (18, some 46)], [(11, some 39), (19, some 47)], [(20, some 48)], [(21, some 49)], [(21, some 49), (22, some 50)], [(21, some 49), (23, some 51)], [(21, some 49), (24, some 52)], [(21, some 49)], [(21, some 49), (26, some 54)], [(21, some 49), (27, some 55)]] [some 28, some 29, some 30, some 31, some 32, some 33, some 34, some 35, some 36, some 37, some 38, some 39, some 40, some 41, some 42, some 43, some 44, some 45, some 46, some 47, some 48, some 49, some 50, some 51, some 52, some 53, some 54, some 55, some 56] (fctF (.is (v17) :: .is (.string (strOf y13.1)) :: .is (v23) :: .is (.string (strOf y19.1)) :: .is (.bool (decide ((strOf y13.1) = (strOf y19.1)))) :: .is (.bool (decide ((strOf y13.1) = (strOf y19.1)))) :: .is (cond (decide ((strOf y13.1) = (strOf y19.1))) (errV 73 y13.2) undef) :: .is (cond (decide ((strOf y13.1) = (strOf y19.1))) (.int .i64 (errN y13.2)) undef) :: .is (cond (decide ((strOf y13.1) = (strOf y19.1))) (.int .i64 y19.2) undef) :: .is (cond (decide ((strOf y13.1) = (strOf y19.1))) (.bool (decide ((errN y13.2) = y19.2))) undef) :: .is (.bool ((decide ((strOf y13.1) = (strOf y19.1))) && (decide ((errN y13.2) = y19.2)))) :: .is (.bool ((decide ((strOf y13.1) = (strOf y19.1))) && (decide ((errN y13.2) = y19.2)))) :: .is (cond ((decide ((strOf y13.1) = (strOf y19.1))) && (decide ((errN y13.2) = y19.2))) (.pointer (some ⟨b1, 0, none⟩)) undef) :: .is (cond ((decide ((strOf y13.1) = (strOf y19.1))) && (decide ((errN y13.2) = y19.2))) (.int .i64 of_.e0) undef) :: .is (cond ((decide ((strOf y13.1) = (strOf y19.1))) && (decide ((errN y13.2) = y19.2))) (.int .i32 y32) undef) :: .is (cond ((decide ((strOf y13.1) = (strOf y19.1))) && (decide ((errN y13.2) = y19.2))) (.int .i64 (w64 (y32))) undef) :: .is (cond ((decide ((strOf y13.1) = (strOf y19.1))) && (decide ((errN y13.2) = y19.2))) (.pointer (some ⟨b1, 0, none⟩)) undef) :: .is (cond ((decide ((strOf y13.1) = (strOf y19.1))) && (decide ((errN y13.2) = y19.2))) (.int .i64 of_.e0) undef) :: .is (cond ((decide ((strOf y13.1) = (strOf y19.1))) && (decide ((errN y13.2) = y19.2))) (.int .i64 y40) undef) :: .is (cond ((decide ((strOf y13.1) = (strOf y19.1))) && (decide ((errN y13.2) = y19.2))) (.bool (decide ((w64 (y32)) = y40))) undef) :: .is (.bool (((decide ((strOf y13.1) = (strOf y19.1))) && (decide ((errN y13.2) = y19.2))) && (decide ((w64 (y32)) = y40)))) :: .is (.bool (((decide ((strOf y13.1) = (strOf y19.1))) && (decide ((errN y13.2) = y19.2))) && (decide ((w64 (y32)) = y40)))) :: .is (cond (((decide ((strOf y13.1) = (strOf y19.1))) && (decide ((errN y13.2) = y19.2))) && (decide ((w64 (y32)) = y40))) (.pointer (some ⟨b1, 1, none⟩)) undef) :: .is (cond (((decide ((strOf y13.1) = (strOf y19.1))) && (decide ((errN y13.2) = y19.2))) && (decide ((w64 (y32)) = y40))) (.int .i64 of_.e1) undef) :: .is (cond (((decide ((strOf y13.1) = (strOf y19.1))) && (decide ((errN y13.2) = y19.2))) && (decide ((w64 (y32)) = y40))) (.int .i16 y48) undef) :: .is (cond (((decide ((strOf y13.1) = (strOf y19.1))) && (decide ((errN y13.2) = y19.2))) && (decide ((w64 (y32)) = y40))) (.int .i64 (w64 (y48))) undef) :: .is (cond (((decide ((strOf y13.1) = (strOf y19.1))) && (decide ((errN y13.2) = y19.2))) && (decide ((w64 (y32)) = y40))) (.pointer (some ⟨b1, 1, none⟩)) undef) :: .is (cond (((decide ((strOf y13.1) = (strOf y19.1))) && (decide ((errN y13.2) = y19.2))) && (decide ((w64 (y32)) = y40))) (.int .i64 of_.e1) undef) :: .is (cond (((decide ((strOf y13.1) = (strOf y19.1))) && (decide ((errN y13.2) = y19.2))) && (decide ((w64 (y32)) = y40))) (.int .i64 y56) undef) :: [])) (fun m_ => some (b1, .cells ⟨[.int .i64 of_.e0, .int .i64 of_.e1]⟩ 24 (0, 0)) :: L) (fun _ => none) mixed (by kernel_rfl) (by kernel_rfl) rfl (fct_mono (by kernel_rfl)) ⟨(fun H' m_ hH hm_ hu_ => dn <| s_d (m_ 0) rfl (d_move (v := v17) rfl) (by exact rfl) rfl), (by rintro H' m_ hH hm_ hu_ _ rfl; exact dn <| s_d (m_ 1) rfl (d_strof Tryd.underlying26 Tryd.underlying5 Tryd.underlying9 rfl (h18.mono (e22.trans hH)).src) (by exact rfl) rfl), (fun H' m_ hH hm_ hu_ => dn <| s_d (m_ 2) rfl (d_move (v := v23) rfl) (by exact rfl) rfl), (by rintro H' m_ hH hm_ hu_ _ rfl; exact dn <| s_d (m_ 3) rfl (d_strof Tryd.underlying26 Tryd.underlying5 Tryd.underlying9 rfl (h24.mono hH).src) (by exact rfl) rfl), (by rintro H' m_ hH hm_ hu_ _ rfl _ rfl; exact dn <| s_d (m_ 4) rfl (d_eqs rfl rfl) (by exact rfl) rfl), (by rintro H' m_ hH hm_ hu_ _ rfl; exact dn <| s_d (m_ 5) rfl (d_move (v := .bool (decide ((strOf y13.1) = (strOf y19.1)))) rfl) (by exact rfl) rfl), (by rintro H' m_ hH hm_ hu_ _ rfl; exact dn <| s_g (g := decide ((strOf y13.1) = (strOf y19.1))) (m_ 6) rfl rfl rfl wn_t (fun g25 => d_move (v := errV 73 y13.2) rfl) rfl (by exact fun g_ => cvt g_) (by exact fun g_ => cnt g_)), (by rintro H' m_ hH hm_ hu_ _ rfl _ rfl; exact dn <| s_g (g := decide ((strOf y13.1) = (strOf y19.1))) (m_ 7) rfl rfl rfl wn_t (fun g26 => call_d (o_call co12 (vs := [errV 73 y13.2]) (acons (cvt g26) (anil)) (num12.calls (hG.mono (((e10.trans e16).trans e22).trans hH)) rfl))) rfl (by exact fun g_ => cvt g_) (by exact fun g_ => cnt g_)), (by rintro H' m_ hH hm_ hu_ _ rfl; exact dn <| s_g (g := decide ((strOf y13.1) = (strOf y19.1))) (m_ 8) rfl rfl rfl wn_t (fun g27 => d_move (v := .int .i64 y19.2) rfl) rfl (by exact fun g_ => cvt g_) (by exact fun g_ => cnt g_)), (by rintro H' m_ hH hm_ hu_ _ rfl _ rfl _ rfl; exact dn <| s_g (g := decide ((strOf y13.1) = (strOf y19.1))) (m_ 9) rfl rfl rfl wn_t (fun g28 => d_eql (cvt g28) (cvt g28)) rfl (by exact fun g_ => cvt g_) (by exact fun g_ => cnt g_)), (by rintro H' m_ hH hm_ hu_ _ rfl _ rfl; exact dn <| s_d (m_ 10) rfl (d_and' (b := (decide ((strOf y13.1) = (strOf y19.1)))) (p := (decide ((errN y13.2) = y19.2))) rfl rfl rfl) (by exact rfl) rfl), (by rintro H' m_ hH hm_ hu_ _ rfl; exact dn <| s_d (m_ 11) rfl (d_move (v := .bool ((decide ((strOf y13.1) = (strOf y19.1))) && (decide ((errN y13.2) = y19.2)))) rfl) (by exact rfl) rfl), (by rintro H' m_ hH hm_ hu_ _ rfl; exact dn <| s_g (g := (decide ((strOf y13.1) = (strOf y19.1))) && (decide ((errN y13.2) = y19.2))) (m_ 12) rfl rfl rfl wn_t (fun g29 => d_idxArr (o' := 0) Tryd.underlying24 sz2 rfl rfl (by decide) rfl) rfl (by exact fun g_ => cvt g_) (by exact fun g_ => cnt g_)), (by rintro H' m_ hH hm_ hu_ _ rfl _ rfl; exact dn <| s_g (g := (decide ((strOf y13.1) = (strOf y19.1))) && (decide ((errN y13.2) = y19.2))) (m_ 13) rfl rfl rfl wn_t (fun g30 => d_loado (v := .int .i64 of_.e0) ty2 (cvt g30) .here rfl rfl rfl rfl) rfl (by exact fun g_ => cvt g_) (by exact fun g_ => cnt g_)), (by rintro H' m_ hH hm_ hu_ _ rfl _ rfl; exact dn <| s_g (g := (decide ((strOf y13.1) = (strOf y19.1))) && (decide ((errN y13.2) = y19.2))) (m_ 14) rfl rfl rfl wn_t (fun g31 => call_d (o_call co13 (vs := [.int .i64 of_.e0]) (acons (cvt g31) (anil)) (cat062_Place.calls k (gd_t g31 hy33)))) rfl (by exact fun g_ => cvt g_) (by exact fun g_ => cnt g_)), (by rintro H' m_ hH hm_ hu_ _ rfl _ rfl; exact dn <| s_g (g := (decide ((strOf y13.1) = (strOf y19.1))) && (decide ((errN y13.2) = y19.2))) (m_ 15) rfl rfl rfl wn_t (fun g36 => d_conv (c := w64 (y32)) Tryd.underlying21 Tryd.underlying2 (cvt g36) rfl) rfl (by exact fun g_ => cvt g_) (by exact fun g_ => cnt g_)), (by rintro H' m_ hH hm_ hu_ _ rfl; exact dn <| s_g (g := (decide ((strOf y13.1) = (strOf y19.1))) && (decide ((errN y13.2) = y19.2))) (m_ 16) rfl rfl rfl wn_t (fun g37 => d_idxArr (o' := 0) Tryd.underlying24 sz2 rfl rfl (by decide) rfl) rfl (by exact fun g_ => cvt g_) (by exact fun g_ => cnt g_)), (by rintro H' m_ hH hm_ hu_ _ rfl _ rfl; exact dn <| s_g (g := (decide ((strOf y13.1) = (strOf y19.1))) && (decide ((errN y13.2) = y19.2))) (m_ 17) rfl rfl rfl wn_t (fun g38 => d_loado (v := .int .i64 of_.e0) ty2 (cvt g38) .here rfl rfl rfl rfl) rfl (by exact fun g_ => cvt g_) (by exact fun g_ => cnt g_)), (by rintro H' m_ hH hm_ hu_ _ rfl _ rfl; exact dn <| s_g (g := (decide ((strOf y13.1) = (strOf y19.1))) && (decide ((errN y13.2) = y19.2))) (m_ 18) rfl rfl rfl wn_t (fun g39 => call_d (o_call co14 (vs := [.int .i64 of_.e0, .int .i64 19, .int .i64 (-8388608), .int .i64 8388607]) (acons (cvt g39) (acons rfl (acons rfl (acons rfl (anil))))) (radomeref29_Near.calls k (gd_t g39 hy41)))) rfl (by exact fun g_ => cvt g_) (by exact fun g_ => cnt g_)), (by rintro H' m_ hH hm_ hu_ _ rfl _ rfl _ rfl; exact dn <| s_g (g := (decide ((strOf y13.1) = (strOf y19.1))) && (decide ((errN y13.2) = y19.2))) (m_ 19) rfl rfl rfl wn_t (fun g44 => d_eql (cvt g44) (cvt g44)) rfl (by exact fun g_ => cvt g_) (by exact fun g_ => cnt g_)), (by rintro H' m_ hH hm_ hu_ _ rfl _ rfl; exact dn <| s_d (m_ 20) rfl (d_and' (b := ((decide ((strOf y13.1) = (strOf y19.1))) && (decide ((errN y13.2) = y19.2)))) (p := (decide ((w64 (y32)) = y40))) rfl rfl rfl) (by exact rfl) rfl), (by rintro H' m_ hH hm_ hu_ _ rfl; exact dn <| s_d (m_ 21) rfl (d_move (v := .bool (((decide ((strOf y13.1) = (strOf y19.1))) && (decide ((errN y13.2) = y19.2))) && (decide ((w64 (y32)) = y40)))) rfl) (by exact rfl) rfl), (by rintro H' m_ hH hm_ hu_ _ rfl; exact dn <| s_g (g := ((decide ((strOf y13.1) = (strOf y19.1))) && (decide ((errN y13.2) = y19.2))) && (decide ((w64 (y32)) = y40))) (m_ 22) rfl rfl rfl wn_t (fun g45 => d_idxArr (o' := 1) Tryd.underlying24 sz2 rfl rfl (by decide) rfl) rfl (by exact fun g_ => cvt g_) (by exact fun g_ => cnt g_)), (by rintro H' m_ hH hm_ hu_ _ rfl _ rfl; exact dn <| s_g (g := ((decide ((strOf y13.1) = (strOf y19.1))) && (decide ((errN y13.2) = y19.2))) && (decide ((w64 (y32)) = y40))) (m_ 23) rfl rfl rfl wn_t (fun g46 => d_loado (v := .int .i64 of_.e1) ty2 (cvt g46) .here rfl rfl rfl rfl) rfl (by exact fun g_ => cvt g_) (by exact fun g_ => cnt g_)), (by rintro H' m_ hH hm_ hu_ _ rfl _ rfl; exact dn <| s_g (g := ((decide ((strOf y13.1) = (strOf y19.1))) && (decide ((errN y13.2) = y19.2))) && (decide ((w64 (y32)) = y40))) (m_ 24) rfl rfl rfl wn_t (fun g47 => call_d (o_call co15 (vs := [.int .i64 of_.e1]) (acons (cvt g47) (anil)) (cat062_Speed.calls k (gd_t g47 hy49)))) rfl (by exact fun g_ => cvt g_) (by exact fun g_ => cnt g_)), (by rintro H' m_ hH hm_ hu_ _ rfl _ rfl; exact dn <| s_g (g := ((decide ((strOf y13.1) = (strOf y19.1))) && (decide ((errN y13.2) = y19.2))) && (decide ((w64 (y32)) = y40))) (m_ 25) rfl rfl rfl wn_t (fun g52 => d_conv (c := w64 (y48)) Tryd.underlying38 Tryd.underlying2 (cvt g52) rfl) rfl (by exact fun g_ => cvt g_) (by exact fun g_ => cnt g_)), (by rintro H' m_ hH hm_ hu_ _ rfl; exact dn <| s_g (g := ((decide ((strOf y13.1) = (strOf y19.1))) && (decide ((errN y13.2) = y19.2))) && (decide ((w64 (y32)) = y40))) (m_ 26) rfl rfl rfl wn_t (fun g53 => d_idxArr (o' := 1) Tryd.underlying24 sz2 rfl rfl (by decide) rfl) rfl (by exact fun g_ => cvt g_) (by exact fun g_ => cnt g_)), (by rintro H' m_ hH hm_ hu_ _ rfl _ rfl; exact dn <| s_g (g := ((decide ((strOf y13.1) = (strOf y19.1))) && (decide ((errN y13.2) = y19.2))) && (decide ((w64 (y32)) = y40))) (m_ 27) rfl rfl rfl wn_t (fun g54 => d_loado (v := .int .i64 of_.e1) ty2 (cvt g54) .here rfl rfl rfl rfl) rfl (by exact fun g_ => cvt g_) (by exact fun g_ => cnt g_)), (by rintro H' m_ hH hm_ hu_ _ rfl _ rfl; exact dn <| s_g (g := ((decide ((strOf y13.1) = (strOf y19.1))) && (decide ((errN y13.2) = y19.2))) && (decide ((w64 (y32)) = y40))) (m_ 28) rfl rfl rfl wn_t (fun g55 => call_d (o_call co14 (vs := [.int .i64 of_.e1, .int .i64 18, .int .i64 (-32768), .int .i64 32767]) (acons (cvt g55) (acons rfl (acons rfl (acons rfl (anil))))) (radomeref29_Near.calls k (gd_t g55 hy57)))) rfl (by exact fun g_ => cvt g_) (by exact fun g_ => cnt g_)), trivial⟩ ?_
  intro H60 e61
  rintro _ _ rfl _ _ rfl _ _ rfl _ _ rfl _ _ rfl _ _ rfl _ _ rfl _ _ rfl _ _ rfl _ _ rfl _ _ rfl _ _ rfl _ _ rfl _ _ rfl _ _ rfl _ _ rfl _ _ rfl _ _ rfl _ _ rfl _ _ rfl _ _ rfl _ _ rfl _ _ rfl _ _ rfl _ _ rfl _ _ rfl _ _ rfl _ _ rfl _ _ rfl
  refine w_g (g := ((decide ((strOf y13.1) = (strOf y19.1))) && (decide ((errN y13.2) = y19.2))) && (decide ((w64 (y32)) = y40))) rfl rfl rfl wn_t (fun g62 => d_eql (cvt g62) (cvt g62)) <| w_d rfl (d_and' (b := (((decide ((strOf y13.1) = (strOf y19.1))) && (decide ((errN y13.2) = y19.2))) && (decide ((w64 (y32)) = y40)))) (p := (decide ((w64 (y48)) = y56))) rfl rfl rfl) <| wM (.bool ((((decide ((strOf y13.1) = (strOf y19.1))) && (decide ((errN y13.2) = y19.2))) && (decide ((w64 (y32)) = y40))) && (decide ((w64 (y48)) = y56)))) rfl rfl ?_
  obtain ⟨y64, hy65, he⟩ := bs he
  refine w_g (g := (((decide ((strOf y13.1) = (strOf y19.1))) && (decide ((errN y13.2) = y19.2))) && (decide ((w64 (y32)) = y40))) && (decide ((w64 (y48)) = y56))) rfl rfl rfl wn_t (fun g63 => call_d (o_call co8 (vs := []) rfl (radomelaw29_sure.calls k (gd_t g63 hy65)))) <| w_d rfl (d_and' (b := ((((decide ((strOf y13.1) = (strOf y19.1))) && (decide ((errN y13.2) = y19.2))) && (decide ((w64 (y32)) = y40))) && (decide ((w64 (y48)) = y56)))) (p := y64) rfl rfl rfl) <| wA (.bool (((((decide ((strOf y13.1) = (strOf y19.1))) && (decide ((errN y13.2) = y19.2))) && (decide ((w64 (y32)) = y40))) && (decide ((w64 (y48)) = y56))) && y64)) rfl rfl <| w_done ?_
  obtain rfl := sj he
  refine w_return fn_3 rs_3 (.tmp (v := .bool (((((decide ((strOf y13.1) = (strOf y19.1))) && (decide ((errN y13.2) = y19.2))) && (decide ((w64 (y32)) = y40))) && (decide ((w64 (y48)) = y56))) && y64)) rfl .nil) <| ⟨⟨[_], rfl⟩, hle.trans (((e10.trans e16).trans e22).trans e61), rfl⟩
end Go.Proofs.YtlokgnjlnefbbaaDoor.GRW

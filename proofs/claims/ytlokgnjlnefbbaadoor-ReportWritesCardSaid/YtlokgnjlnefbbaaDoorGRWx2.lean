/- printed by gen.py -/
import Derived.Test.YtlokgnjlnefbbaaDoorGRWx1
namespace Go.Proofs.YtlokgnjlnefbbaaDoor.GRW
open Go Go.RowKit Go.Proofs.YtlokgnjlnefbbaaDoorK Go.Proofs.YtlokgnjlnefbbaaDoor
set_option maxRecDepth 100000
set_option maxHeartbeats 2000000
set_option linter.unusedVariables false
set_option linter.unusedSimpArgs false
noncomputable def radomeref01_Of.C : Code := (Tryd.f41.body).getD .skip
def radomeref01_Of.out (r : radomeref01_Num) (H : Hp) (v : Value) : Prop := ∃ v0, v = .agg ⟨[.bool r.f_Neg, v0]⟩ ∧ Ro kI64 H v0 r.f_D
theorem radomeref01_Of.out_mono (r : radomeref01_Num) {H H' : Hp} {v : Value} (hle : H.le H') (h : radomeref01_Of.out r H v) : radomeref01_Of.out r H' v := by
 obtain ⟨v0, rfl, h0⟩ := h; exact ⟨v0, rfl, h0.mono hle⟩
abbrev radomeref01_Of.R (H0 : Hp) (L : Items) (r : radomeref01_Num) := fR H0 L (radomeref01_Of.out r)
structure radomeref01_Of.Hs where
 l0 : Int → Int → (List Int) → Option radomeref01_Num
noncomputable def radomeref01_Of.j1 (k : Nat) (h : radomeref01_Of.Hs)  (n : Int) (v_ : Int) : Option radomeref01_Num := h.l0 n v_ []
noncomputable def radomeref01_Of.b0 (k : Nat) (h : radomeref01_Of.Hs)  (n : Int) (v_ : Int) (d : List Int) : Option radomeref01_Num := if 0 < v_ then (if d.length + 1 ≤ 17592186044288 then (h.l0 n ((Int.tdiv v_ 10) % 18446744073709551616) (d ++ [w64 (Int.tmod v_ 10)])) else none) else (some ((⟨decide (n < 0), d⟩ : radomeref01_Num)))
noncomputable def radomeref01_Of.hs : Nat → radomeref01_Of.Hs
 | 0 => ⟨fun _ _ _ => none⟩
 | k + 1 => ⟨fun x0 x1 x2 => radomeref01_Of.b0 k (radomeref01_Of.hs k) x0 x1 x2⟩
noncomputable def radomeref01_Of.f (k : Nat) (n : Int) : Option radomeref01_Num := (fun h : radomeref01_Of.Hs => if n < 0 then (radomeref01_Of.j1 k h n ((0 - ((n) % 18446744073709551616)) % 18446744073709551616)) else (radomeref01_Of.j1 k h n ((n) % 18446744073709551616))) (radomeref01_Of.hs k)
noncomputable def radomeref01_Of.Kj1 : List Item := .code (seqR (seqR (seqR radomeref01_Of.C))) :: []
noncomputable def radomeref01_Of.Kl0 : List Item := .code (lopB (blkB (seqL (seqR (seqR (seqR (seqR radomeref01_Of.C))))))) :: .inLoop (lopB (blkB (seqL (seqR (seqR (seqR (seqR radomeref01_Of.C))))))) :: .inBlock 0 :: .code (seqR (seqR (seqR (seqR (seqR radomeref01_Of.C))))) :: []
structure radomeref01_Of.OK (h : radomeref01_Of.Hs) : Prop where
 l0 : ∀ {H0 H : Hp} {L : Items} {r : radomeref01_Num} {jk_ : Nat → Value} {n : Int} {v_ : Int} {d : List Int} {v_d : Value} {i_d : Item'} {b_t2 : Nat} (_ : H0.le H) (_he : h.l0 n v_ d = some r) (_h_d : Sl kI64 H 3 i_d v_d d), Wp Tryd.prog 41 25 radomeref01_Of.Kl0 (upd (upd (upd (upd jk_ 0 (.int .i64 n)) 2 (.pointer (some ⟨b_t2, 0, none⟩))) 3 (.int .u64 v_)) 4 (v_d)) H (i_d :: some (b_t2, .cells ⟨[.bool false, .slice none 0 0]⟩ 84 (0, 0)) :: L) (radomeref01_Of.R H0 L r)
theorem radomeref01_Of.j1_ok {k : Nat} {h : radomeref01_Of.Hs} (hh : radomeref01_Of.OK h) {H0 H : Hp} {L : Items} {r : radomeref01_Num} {jk_ : Nat → Value} {n : Int} {v_ : Int} {b_t2 : Nat} (hle : H0.le H) (he : radomeref01_Of.j1 k h n v_ = some r) : Wp Tryd.prog 41 25 radomeref01_Of.Kj1 (upd (upd (upd jk_ 0 (.int .i64 n)) 2 (.pointer (some ⟨b_t2, 0, none⟩))) 3 (.int .u64 v_)) H (some (b_t2, .cells ⟨[.bool false, .slice none 0 0]⟩ 84 (0, 0)) :: L) (radomeref01_Of.R H0 L r) := by
 unfold radomeref01_Of.j1 at he
 unfold radomeref01_Of.Kj1
 refine wR rfl <| wA (.slice none 0 0) rfl rfl <| wE <| w_block <| w_loop <| w_none <| w_sl 0 (.int .i64 n) rfl <| w_sl 2 (.pointer (some ⟨b_t2, 0, none⟩)) rfl <| w_sl 3 (.int .u64 v_) rfl <| w_sl 4 (.slice none 0 0) rfl <| hh.l0 hle he (sl_nil _ _ _)
theorem radomeref01_Of.b0_ok {k : Nat} {h : radomeref01_Of.Hs} (hh : radomeref01_Of.OK h) {H0 H : Hp} {L : Items} {r : radomeref01_Num} {jk_ : Nat → Value} {n : Int} {v_ : Int} {d : List Int} {v_d : Value} {i_d : Item'} {b_t2 : Nat} (hle : H0.le H) (he : radomeref01_Of.b0 k h n v_ d = some r) (h_d : Sl kI64 H 3 i_d v_d d) : Wp Tryd.prog 41 25 radomeref01_Of.Kl0 (upd (upd (upd (upd jk_ 0 (.int .i64 n)) 2 (.pointer (some ⟨b_t2, 0, none⟩))) 3 (.int .u64 v_)) 4 (v_d)) H (i_d :: some (b_t2, .cells ⟨[.bool false, .slice none 0 0]⟩ 84 (0, 0)) :: L) (radomeref01_Of.R H0 L r) := by
 unfold radomeref01_Of.b0 at he
 unfold radomeref01_Of.Kl0
 refine w_seq <| wR rfl <| wM (.int .u64 v_) rfl rfl <| w_d rfl (d_gtr rfl rfl) <| w_done ?_
 rcases its he with ⟨c3, he⟩ | ⟨c3, he⟩
 ·
  refine w_then rfl (dt c3) <| w_skip <| w_block <| wR rfl <| wM v_d rfl rfl <| wM (.int .u64 v_) rfl rfl <| w_d rfl (d_rem rfl rfl (by decide)) <| w_d rfl (d_conv (c := w64 (Int.tmod v_ 10)) Tryd.underlying117 Tryd.underlying3 rfl rfl) <| w_a rfl (o_buildSlice' (kd := kI64) (css := [[.int .i64 (w64 (Int.tmod v_ 10))]]) (xs := [w64 (Int.tmod v_ 10)]) (parts := [(0, .int .i64 (w64 (Int.tmod v_ 10)))]) Tryd.underlying41 ti3 rfl ⟨_, _, rfl, rfl, rfl⟩ ⟨rfl, trivial⟩ rfl (by decide)) ?_
  rintro v4 _ _ ⟨i5, rfl, rfl, h6⟩
  obtain ⟨c7, he⟩ := rq he
  refine w_a rfl (o_append' (kd := kI64) (F := fun z_ => i5 :: z_ :: some (b_t2, .cells ⟨[.bool false, .slice none 0 0]⟩ 84 (0, 0)) :: L) Tryd.underlying41 Tryd.underlying41 ti3 rfl (by first | omega | (simp only [List.nil_append, List.length_cons, List.length_nil]; omega)) rfl rfl h_d (h6.src .here) (fun _ => (.there .here))) ?_
  rintro v8 _ _ ⟨i9, rfl, rfl, h10⟩
  refine wA v8 rfl rfl <| w_done <| w_region rfl <| wM (.int .u64 v_) rfl rfl <| w_d rfl (d_quo (c := (Int.tdiv v_ 10) % 18446744073709551616) rfl rfl (by decide) rfl) <| wA (.int .u64 ((Int.tdiv v_ 10) % 18446744073709551616)) rfl rfl <| w_done <| w_inBlock <| w_inLoop <| w_del .here <| w_sl 0 (.int .i64 n) rfl <| w_sl 2 (.pointer (some ⟨b_t2, 0, none⟩)) rfl ?_
  refine w_sl 3 (.int .u64 ((Int.tdiv v_ 10) % 18446744073709551616)) rfl <| w_sl 4 (v8) rfl <| hh.l0 hle he h10
 ·
  refine w_else rfl (df c3) <| w_exit rfl <| wR rfl <| wM (.int .i64 n) rfl rfl <| w_d rfl (d_lss rfl rfl) <| wM v_d rfl rfl <| w_d rfl (d_build (cs' := [.bool (decide (n < 0)), v_d]) Tryd.underlying84 zr84 rfl (by kernel_rfl) (parts := [(0, .bool (decide (n < 0))), (1, v_d)]) rfl (.cons (place_of rfl sz4 rfl) rfl rfl u1 (.cons (place_of rfl sz41 rfl) h_d.cells rfl (.there u1) .nil))) <| w_a0 rfl (o_store (v := .agg ⟨[.bool (decide (n < 0)), v_d]⟩) sz84 rfl rfl rfl rfl (oc rfl (oc (h_d.one) oz)) (.there .here) u2) ?_
  rintro _ _ _ ⟨rfl, rfl, rfl⟩
  refine w_done <| w_freeze h_d .here ?_
  intro H11 e12 h13
  obtain rfl := sj he
  refine w_return fn_41 rs_41 (.box (v := .agg ⟨[.bool (decide (n < 0)), v_d]⟩) rfl ty84 rfl rfl (.there .here) rfl .nil) <| ⟨⟨[_, _], rfl⟩, hle.trans e12, ⟨v_d, rfl, h13⟩⟩
theorem radomeref01_Of.ok : ∀ k, radomeref01_Of.OK (radomeref01_Of.hs k)
 | 0 => ⟨(by intros; exact nomatch (show none = some _ from by assumption))⟩
 | k + 1 => ⟨radomeref01_Of.b0_ok (k := k) (radomeref01_Of.ok k)⟩
theorem radomeref01_Of.calls (k : Nat) {H : Hp} {L : Items} {n : Int} {r : radomeref01_Num} (he : radomeref01_Of.f k n = some r) : Ct Tryd.prog 41 ⟨[.int .i64 n]⟩ H L (cR H L (radomeref01_Of.out r)) := by
 refine ct_out (O := radomeref01_Of.out r) ?_
 have hle : H.le H := .refl _
 have hh := radomeref01_Of.ok k
 unfold radomeref01_Of.f at he
 refine ct_enter (args := [.int .i64 n]) fn_41 rfl nt_41 rfl <| wR rfl <| w_a rfl (o_alloc zr84 rfl) ?_
 rintro _ _ _ ⟨b1, rfl, rfl, rfl⟩
 refine wQ rfl <| wM (.int .i64 n) rfl rfl <| w_d rfl (d_conv (c := (n) % 18446744073709551616) Tryd.underlying2 Tryd.underlying117 rfl rfl) <| wA (.int .u64 ((n) % 18446744073709551616)) rfl rfl <| wE <| wR rfl <| wM (.int .i64 n) rfl rfl <| w_d rfl (d_lss rfl rfl) ?_
 refine w_done ?_
 rcases its he with ⟨c2, he⟩ | ⟨c2, he⟩
 ·
  refine w_then rfl (dt c2) <| w_region rfl <| wM (.int .u64 ((n) % 18446744073709551616)) rfl rfl <| w_d rfl (d_sub (c := (0 - ((n) % 18446744073709551616)) % 18446744073709551616) rfl rfl rfl) <| wA (.int .u64 ((0 - ((n) % 18446744073709551616)) % 18446744073709551616)) rfl rfl <| w_done <| w_sl 0 (.int .i64 n) rfl <| w_sl 2 (.pointer (some ⟨b1, 0, none⟩)) rfl <| w_sl 3 (.int .u64 ((0 - ((n) % 18446744073709551616)) % 18446744073709551616)) rfl <| radomeref01_Of.j1_ok (k := k) hh hle he
 ·
  refine w_else rfl (df c2) <| w_skip <| w_sl 0 (.int .i64 n) rfl <| w_sl 2 (.pointer (some ⟨b1, 0, none⟩)) rfl <| w_sl 3 (.int .u64 ((n) % 18446744073709551616)) rfl <| radomeref01_Of.j1_ok (k := k) hh hle he
noncomputable def radomeref01_trim.C : Code := (Tryd.f73.body).getD .skip
abbrev radomeref01_trim.out (r : (List Int)) (H : Hp) (v : Value) : Prop := Ro kI64 H v r
abbrev radomeref01_trim.R (H0 : Hp) (L : Items) (r : (List Int)) := fR H0 L (radomeref01_trim.out r)
structure radomeref01_trim.Hs where
 l0 : (List Int) → Option (List Int)
noncomputable def radomeref01_trim.b0 (k : Nat) (h : radomeref01_trim.Hs)  (d : List Int) : Option (List Int) := if (decide (0 < (d.length : Int))) = true → (0 : Int) ≤ w64 ((d.length : Int) - 1) ∧ w64 ((d.length : Int) - 1) < (d.length : Int) then (if ((decide (0 < (d.length : Int))) && (decide ((rd d (w64 ((d.length : Int) - 1))) = 0))) = true then (if (0 : Int) ≤ 0 ∧ (0 : Int) ≤ w64 ((d.length : Int) - 1) ∧ w64 ((d.length : Int) - 1) ≤ (d.length : Int) then (h.l0 (cut d 0 (w64 ((d.length : Int) - 1)))) else none) else (some (d))) else none
noncomputable def radomeref01_trim.hs : Nat → radomeref01_trim.Hs
 | 0 => ⟨fun _ => none⟩
 | k + 1 => ⟨fun x0 => radomeref01_trim.b0 k (radomeref01_trim.hs k) x0⟩
noncomputable def radomeref01_trim.f (k : Nat) (d : List Int) : Option (List Int) := (fun h : radomeref01_trim.Hs => h.l0 d) (radomeref01_trim.hs k)
noncomputable def radomeref01_trim.Kl0 : List Item := .code (lopB (blkB (seqL (seqR radomeref01_trim.C)))) :: .inLoop (lopB (blkB (seqL (seqR radomeref01_trim.C)))) :: .inBlock 0 :: .code (seqR (seqR radomeref01_trim.C)) :: []
structure radomeref01_trim.OK (h : radomeref01_trim.Hs) : Prop where
 l0 : ∀ {H0 H : Hp} {L : Items} {r : (List Int)} {jk_ : Nat → Value} {d : List Int} {v_d : Value} (_ : H0.le H) (_he : h.l0 d = some r) (_h_d : Ro kI64 H v_d d), Wp Tryd.prog 73 21 radomeref01_trim.Kl0 (upd (upd jk_ 0 (v_d)) 2 (.slice none 0 0)) H (L) (radomeref01_trim.R H0 L r)
theorem radomeref01_trim.b0_ok {k : Nat} {h : radomeref01_trim.Hs} (hh : radomeref01_trim.OK h) {H0 H : Hp} {L : Items} {r : (List Int)} {jk_ : Nat → Value} {d : List Int} {v_d : Value} (hle : H0.le H) (he : radomeref01_trim.b0 k h d = some r) (h_d : Ro kI64 H v_d d) : Wp Tryd.prog 73 21 radomeref01_trim.Kl0 (upd (upd jk_ 0 (v_d)) 2 (.slice none 0 0)) H (L) (radomeref01_trim.R H0 L r) := by
 unfold radomeref01_trim.b0 at he
 unfold radomeref01_trim.Kl0
 refine w_seq <| wR rfl <| wM v_d rfl rfl <| w_d rfl (d_len Tryd.underlying41 rfl h_d.src) <| w_d rfl (d_gtr rfl rfl) <| wM (.bool (decide (0 < (d.length : Int)))) rfl rfl <| w_g (g := decide (0 < (d.length : Int))) rfl rfl rfl wn_t (fun g1 => d_move (v := v_d) rfl) <| w_g (g := decide (0 < (d.length : Int))) rfl rfl rfl wn_t (fun g2 => d_move (v := v_d) rfl) <| w_g (g := decide (0 < (d.length : Int))) rfl rfl rfl wn_t (fun g3 => d_len Tryd.underlying41 (cvt g3) h_d.src) <| w_g (g := decide (0 < (d.length : Int))) rfl rfl rfl wn_t (fun g4 => d_sub (c := w64 ((d.length : Int) - 1)) (cvt g4) rfl rfl) ?_
 obtain ⟨c6, he⟩ := rq he
 refine w_g (g := decide (0 < (d.length : Int))) rfl rfl rfl wn_t (fun g5 => d_index (sz := 1) Tryd.underlying41 sz3 (cvt g5) h_d.src (cvt g5) (c6 g5)) <| w_g (g := decide (0 < (d.length : Int))) rfl rfl rfl wn_t (fun g7 => d_ldint ty3 (cvt g7) h_d.src (c6 g7)) <| w_g (g := decide (0 < (d.length : Int))) rfl rfl rfl wn_t (fun g8 => d_eql (cvt g8) rfl) <| w_d rfl (d_and' (b := (decide (0 < (d.length : Int)))) (p := (decide ((rd d (w64 ((d.length : Int) - 1))) = 0))) rfl rfl rfl) <| w_done ?_
 rcases its he with ⟨c9, he⟩ | ⟨c9, he⟩
 ·
  refine w_then rfl c9 <| w_skip <| w_block <| w_region rfl <| wM v_d rfl rfl <| wM v_d rfl rfl <| w_d rfl (d_len Tryd.underlying41 rfl h_d.src) <| w_d rfl (d_sub (c := w64 ((d.length : Int) - 1)) rfl rfl rfl) ?_
  obtain ⟨c10, he⟩ := rq he
  refine w_a rfl (o_cut (kd := kI64) Tryd.underlying41 sz3 rfl h_d (.inl ⟨rfl, rfl⟩) (.inr ⟨_, _, rfl, rfl⟩) c10) ?_
  rintro v11 _ _ ⟨h12, rfl, rfl⟩
  refine wA v11 rfl rfl <| w_done <| w_inBlock <| w_inLoop <| w_sl 0 (v11) rfl <| w_sl 2 (.slice none 0 0) rfl <| hh.l0 hle he h12
 ·
  refine w_else rfl (Bool.eq_false_iff.2 c9) <| w_exit rfl <| wR rfl <| wM v_d rfl rfl <| wA v_d rfl rfl <| w_done ?_
  obtain rfl := sj he
  refine w_return fn_73 rs_73 (.tmp (v := v_d) rfl .nil) <| ⟨⟨[], rfl⟩, hle, h_d⟩
theorem radomeref01_trim.ok : ∀ k, radomeref01_trim.OK (radomeref01_trim.hs k)
 | 0 => ⟨(by intros; exact nomatch (show none = some _ from by assumption))⟩
 | k + 1 => ⟨radomeref01_trim.b0_ok (k := k) (radomeref01_trim.ok k)⟩
theorem radomeref01_trim.calls (k : Nat) {H : Hp} {L : Items} {d : List Int} {v0_d : Value} {r : (List Int)} (he : radomeref01_trim.f k d = some r) (h0_d : Ro kI64 H v0_d d) : Ct Tryd.prog 73 ⟨[v0_d]⟩ H L (cR H L (radomeref01_trim.out r)) := by
 refine ct_out (O := radomeref01_trim.out r) ?_
 have hle : H.le H := .refl _
 have hh := radomeref01_trim.ok k
 unfold radomeref01_trim.f at he
 refine ct_enter (args := [v0_d]) fn_73 rfl nt_73 rfl <| wR rfl <| wA (.slice none 0 0) rfl rfl <| wE <| w_block <| w_loop <| w_sl 0 (v0_d) rfl <| w_sl 2 (.slice none 0 0) rfl <| hh.l0 hle he h0_d
noncomputable def radomeref01_num.C : Code := (Tryd.f76.body).getD .skip
def radomeref01_num.out (r : radomeref01_Num) (H : Hp) (v : Value) : Prop := ∃ v0, v = .agg ⟨[.bool r.f_Neg, v0]⟩ ∧ Ro kI64 H v0 r.f_D
theorem radomeref01_num.out_mono (r : radomeref01_Num) {H H' : Hp} {v : Value} (hle : H.le H') (h : radomeref01_num.out r H v) : radomeref01_num.out r H' v := by
 obtain ⟨v0, rfl, h0⟩ := h; exact ⟨v0, rfl, h0.mono hle⟩
noncomputable def radomeref01_num.f (k : Nat) (neg : Bool) (d : List Int) : Option radomeref01_Num := some ((⟨neg && (decide (0 < (d.length : Int))), d⟩ : radomeref01_Num))
theorem radomeref01_num.calls (k : Nat) {H : Hp} {L : Items} {neg : Bool} {d : List Int} {v0_d : Value} {r : radomeref01_Num} (he : radomeref01_num.f k neg d = some r) (h0_d : Ro kI64 H v0_d d) : Ct Tryd.prog 76 ⟨[.bool neg, v0_d]⟩ H L (cR H L (radomeref01_num.out r)) := by
 refine ct_out (O := radomeref01_num.out r) ?_
 have hle : H.le H := .refl _
 unfold radomeref01_num.f at he
 refine ct_enter (args := [.bool neg, v0_d]) fn_76 rfl nt_76 rfl <| wR rfl <| w_a rfl (o_alloc zr84 rfl) ?_
 rintro _ _ _ ⟨b1, rfl, rfl, rfl⟩
 refine wQ rfl <| wM (.bool neg) rfl rfl <| wM (.bool neg) rfl rfl <| w_g (g := neg) rfl rfl rfl wn_t (fun g2 => d_move (v := v0_d) rfl) <| w_g (g := neg) rfl rfl rfl wn_t (fun g3 => d_len Tryd.underlying41 (cvt g3) h0_d.src) <| w_g (g := neg) rfl rfl rfl wn_t (fun g4 => d_gtr (cvt g4) rfl) <| w_d rfl (d_and' (b := neg) (p := (decide (0 < (d.length : Int)))) rfl rfl rfl) <| wM v0_d rfl rfl <| w_d rfl (d_build (cs' := [.bool (neg && (decide (0 < (d.length : Int)))), v0_d]) Tryd.underlying84 zr84 rfl (by kernel_rfl) (parts := [(0, .bool (neg && (decide (0 < (d.length : Int))))), (1, v0_d)]) rfl (.cons (place_of rfl sz4 rfl) rfl rfl u1 (.cons (place_of rfl sz41 rfl) h0_d.cells rfl (.there u1) .nil))) <| w_a0 rfl (o_store (v := .agg ⟨[.bool (neg && (decide (0 < (d.length : Int)))), v0_d]⟩) sz84 rfl rfl rfl rfl (oc rfl (oc (h0_d.one) oz)) .here u2) ?_
 rintro _ _ _ ⟨rfl, rfl, rfl⟩
 refine w_done ?_
 obtain rfl := sj he
 refine w_return fn_76 rs_76 (.box (v := .agg ⟨[.bool (neg && (decide (0 < (d.length : Int)))), v0_d]⟩) rfl ty84 rfl rfl .here rfl .nil) <| ⟨⟨[_], rfl⟩, hle, ⟨v0_d, rfl, h0_d⟩⟩
noncomputable def radomeref01_Mul.C : Code := (Tryd.f61.body).getD .skip
def radomeref01_Mul.out (r : radomeref01_Num) (H : Hp) (v : Value) : Prop := ∃ v0, v = .agg ⟨[.bool r.f_Neg, v0]⟩ ∧ Ro kI64 H v0 r.f_D
theorem radomeref01_Mul.out_mono (r : radomeref01_Num) {H H' : Hp} {v : Value} (hle : H.le H') (h : radomeref01_Mul.out r H v) : radomeref01_Mul.out r H' v := by
 obtain ⟨v0, rfl, h0⟩ := h; exact ⟨v0, rfl, h0.mono hle⟩
abbrev radomeref01_Mul.R (H0 : Hp) (L : Items) (r : radomeref01_Num) := fR H0 L (radomeref01_Mul.out r)
structure radomeref01_Mul.Hs where
 l0 : Bool → (List Int) → Bool → (List Int) → (List Int) → Int → Option radomeref01_Num
 l1 : Bool → (List Int) → Bool → (List Int) → (List Int) → Int → Int → Int → Option radomeref01_Num
noncomputable def radomeref01_Mul.b0 (k : Nat) (h : radomeref01_Mul.Hs)  (a_0 : Bool) (a_1 : List Int) (b_0 : Bool) (b_1 : List Int) (out : List Int) (i : Int) : Option radomeref01_Num := if i < (a_1.length : Int) then (h.l1 a_0 a_1 b_0 b_1 out i 0 0) else ((radomeref01_trim.f k out).bind fun y12 => (radomeref01_num.f k (!(a_0 == b_0)) y12).bind fun y20 => some (y20))
noncomputable def radomeref01_Mul.j3 (k : Nat) (h : radomeref01_Mul.Hs)  (a_0 : Bool) (a_1 : List Int) (b_0 : Bool) (b_1 : List Int) (out : List Int) (i : Int) (c_ : Int) (j_ : Int) (v_ : Int) : Option radomeref01_Num := if (0 : Int) ≤ w64 (i + j_) ∧ w64 (i + j_) < (out.length : Int) then (h.l1 a_0 a_1 b_0 b_1 (out.set (w64 (i + j_) : Int).toNat (Int.tmod v_ 10)) i (w64 (Int.tdiv v_ 10)) (w64 (j_ + 1))) else none
noncomputable def radomeref01_Mul.b1 (k : Nat) (h : radomeref01_Mul.Hs)  (a_0 : Bool) (a_1 : List Int) (b_0 : Bool) (b_1 : List Int) (out : List Int) (i : Int) (c_ : Int) (j_ : Int) : Option radomeref01_Num := if j_ ≤ (b_1.length : Int) then (if (0 : Int) ≤ w64 (i + j_) ∧ w64 (i + j_) < (out.length : Int) then (if j_ < (b_1.length : Int) then (if (0 : Int) ≤ i ∧ i < (a_1.length : Int) then (if (0 : Int) ≤ j_ ∧ j_ < (b_1.length : Int) then (radomeref01_Mul.j3 k h a_0 a_1 b_0 b_1 out i c_ j_ (w64 ((w64 ((rd out (w64 (i + j_))) + c_)) + (w64 ((rd a_1 i) * (rd b_1 j_)))))) else none) else none) else (radomeref01_Mul.j3 k h a_0 a_1 b_0 b_1 out i c_ j_ (w64 ((rd out (w64 (i + j_))) + c_)))) else none) else (h.l0 a_0 a_1 b_0 b_1 out (w64 (i + 1)))
noncomputable def radomeref01_Mul.hs : Nat → radomeref01_Mul.Hs
 | 0 => ⟨fun _ _ _ _ _ _ => none, fun _ _ _ _ _ _ _ _ => none⟩
 | k + 1 => ⟨fun x0 x1 x2 x3 x4 x5 => radomeref01_Mul.b0 k (radomeref01_Mul.hs k) x0 x1 x2 x3 x4 x5, fun x0 x1 x2 x3 x4 x5 x6 x7 => radomeref01_Mul.b1 k (radomeref01_Mul.hs k) x0 x1 x2 x3 x4 x5 x6 x7⟩
noncomputable def radomeref01_Mul.f (k : Nat) (a : radomeref01_Num) (b : radomeref01_Num) : Option radomeref01_Num := (fun h : radomeref01_Mul.Hs => if 0 ≤ w64 ((w64 ((a.f_D.length : Int) + (b.f_D.length : Int))) + 1) ∧ w64 ((w64 ((a.f_D.length : Int) + (b.f_D.length : Int))) + 1) ≤ 35184372088832 then (h.l0 a.f_Neg a.f_D b.f_Neg b.f_D (List.replicate (w64 ((w64 ((a.f_D.length : Int) + (b.f_D.length : Int))) + 1) : Int).toNat (0 : Int)) 0) else none) (radomeref01_Mul.hs k)
noncomputable def radomeref01_Mul.Kl0 : List Item := .code (lopB (blkB (seqR (seqL (seqR (seqR radomeref01_Mul.C)))))) :: .inLoop (lopB (blkB (seqR (seqL (seqR (seqR radomeref01_Mul.C)))))) :: .inBlock 0 :: .code (seqR (seqR (seqR radomeref01_Mul.C))) :: []
noncomputable def radomeref01_Mul.Kl1 : List Item := .code (lopB (blkB (seqR (seqR (blkB (seqL (seqR (lopB (blkB (seqR (seqL (seqR (seqR radomeref01_Mul.C))))))))))))) :: .inLoop (lopB (blkB (seqR (seqR (blkB (seqL (seqR (lopB (blkB (seqR (seqL (seqR (seqR radomeref01_Mul.C))))))))))))) :: .inBlock 2 :: .inBlock 1 :: .code (seqR (seqR (lopB (blkB (seqR (seqL (seqR (seqR radomeref01_Mul.C)))))))) :: .inLoop (lopB (blkB (seqR (seqL (seqR (seqR radomeref01_Mul.C)))))) :: .inBlock 0 :: .code (seqR (seqR (seqR radomeref01_Mul.C))) :: []
noncomputable def radomeref01_Mul.Kj3 : List Item := .code (seqR (seqR (blkB (seqL (seqR (lopB (blkB (seqR (seqR (blkB (seqL (seqR (lopB (blkB (seqR (seqL (seqR (seqR radomeref01_Mul.C)))))))))))))))))) :: .inBlock 3 :: .code (seqR (seqR (lopB (blkB (seqR (seqR (blkB (seqL (seqR (lopB (blkB (seqR (seqL (seqR (seqR radomeref01_Mul.C))))))))))))))) :: .inLoop (lopB (blkB (seqR (seqR (blkB (seqL (seqR (lopB (blkB (seqR (seqL (seqR (seqR radomeref01_Mul.C))))))))))))) :: .inBlock 2 :: .inBlock 1 :: .code (seqR (seqR (lopB (blkB (seqR (seqL (seqR (seqR radomeref01_Mul.C)))))))) :: .inLoop (lopB (blkB (seqR (seqL (seqR (seqR radomeref01_Mul.C)))))) :: .inBlock 0 :: .code (seqR (seqR (seqR radomeref01_Mul.C))) :: []
structure radomeref01_Mul.OK (h : radomeref01_Mul.Hs) : Prop where
 l0 : ∀ {H0 H : Hp} {L : Items} {r : radomeref01_Num} {jk_ : Nat → Value} {a_0 : Bool} {a_1 : List Int} {b_0 : Bool} {b_1 : List Int} {out : List Int} {i : Int} {v_a_1 : Value} {v_b_1 : Value} {v_out : Value} {i_out : Item'} {b_a : Nat} {b_b : Nat} {b_t4 : Nat} (_ : H0.le H) (_he : h.l0 a_0 a_1 b_0 b_1 out i = some r) (_h_a_1 : Ro kI64 H v_a_1 a_1) (_h_b_1 : Ro kI64 H v_b_1 b_1) (_h_out : Sl kI64 H 3 i_out v_out out), Wp Tryd.prog 61 76 radomeref01_Mul.Kl0 (upd (upd (upd (upd (upd jk_ 2 (.pointer (some ⟨b_a, 0, none⟩))) 3 (.pointer (some ⟨b_b, 0, none⟩))) 4 (.pointer (some ⟨b_t4, 0, none⟩))) 5 (v_out)) 6 (.int .i64 i)) H (i_out :: some (b_t4, .cells ⟨[.bool false, .slice none 0 0]⟩ 84 (0, 0)) :: some (b_b, .cells ⟨[.bool b_0, v_b_1]⟩ 84 (0, 0)) :: some (b_a, .cells ⟨[.bool a_0, v_a_1]⟩ 84 (0, 0)) :: L) (radomeref01_Mul.R H0 L r)
 l1 : ∀ {H0 H : Hp} {L : Items} {r : radomeref01_Num} {jk_ : Nat → Value} {a_0 : Bool} {a_1 : List Int} {b_0 : Bool} {b_1 : List Int} {out : List Int} {i : Int} {c_ : Int} {j_ : Int} {v_a_1 : Value} {v_b_1 : Value} {v_out : Value} {i_out : Item'} {b_a : Nat} {b_b : Nat} {b_t4 : Nat} (_ : H0.le H) (_he : h.l1 a_0 a_1 b_0 b_1 out i c_ j_ = some r) (_h_a_1 : Ro kI64 H v_a_1 a_1) (_h_b_1 : Ro kI64 H v_b_1 b_1) (_h_out : Sl kI64 H 3 i_out v_out out), Wp Tryd.prog 61 76 radomeref01_Mul.Kl1 (upd (upd (upd (upd (upd (upd (upd jk_ 2 (.pointer (some ⟨b_a, 0, none⟩))) 3 (.pointer (some ⟨b_b, 0, none⟩))) 4 (.pointer (some ⟨b_t4, 0, none⟩))) 5 (v_out)) 6 (.int .i64 i)) 7 (.int .i64 c_)) 8 (.int .i64 j_)) H (i_out :: some (b_t4, .cells ⟨[.bool false, .slice none 0 0]⟩ 84 (0, 0)) :: some (b_b, .cells ⟨[.bool b_0, v_b_1]⟩ 84 (0, 0)) :: some (b_a, .cells ⟨[.bool a_0, v_a_1]⟩ 84 (0, 0)) :: L) (radomeref01_Mul.R H0 L r)
theorem radomeref01_Mul.b0_ok {k : Nat} {h : radomeref01_Mul.Hs} (hh : radomeref01_Mul.OK h) {H0 H : Hp} {L : Items} {r : radomeref01_Num} {jk_ : Nat → Value} {a_0 : Bool} {a_1 : List Int} {b_0 : Bool} {b_1 : List Int} {out : List Int} {i : Int} {v_a_1 : Value} {v_b_1 : Value} {v_out : Value} {i_out : Item'} {b_a : Nat} {b_b : Nat} {b_t4 : Nat} (hle : H0.le H) (he : radomeref01_Mul.b0 k h a_0 a_1 b_0 b_1 out i = some r) (h_a_1 : Ro kI64 H v_a_1 a_1) (h_b_1 : Ro kI64 H v_b_1 b_1) (h_out : Sl kI64 H 3 i_out v_out out) : Wp Tryd.prog 61 76 radomeref01_Mul.Kl0 (upd (upd (upd (upd (upd jk_ 2 (.pointer (some ⟨b_a, 0, none⟩))) 3 (.pointer (some ⟨b_b, 0, none⟩))) 4 (.pointer (some ⟨b_t4, 0, none⟩))) 5 (v_out)) 6 (.int .i64 i)) H (i_out :: some (b_t4, .cells ⟨[.bool false, .slice none 0 0]⟩ 84 (0, 0)) :: some (b_b, .cells ⟨[.bool b_0, v_b_1]⟩ 84 (0, 0)) :: some (b_a, .cells ⟨[.bool a_0, v_a_1]⟩ 84 (0, 0)) :: L) (radomeref01_Mul.R H0 L r) := by
 unfold radomeref01_Mul.b0 at he
 unfold radomeref01_Mul.Kl0
 refine w_seq <| wR rfl <| wM (.int .i64 i) rfl rfl <| w_d rfl (d_fld (o' := 1) Tryd.underlying84 rfl sz41 rfl rfl rfl) <| wL v_a_1 ty41 rfl rfl (.there (.there (.there .here))) rfl rfl <| w_d rfl (d_len Tryd.underlying41 rfl h_a_1.src) <| w_d rfl (d_lss rfl rfl) <| w_done ?_
 rcases its he with ⟨c8, he⟩ | ⟨c8, he⟩
 ·
  refine w_then rfl (dt c8) <| w_skip <| w_seq <| w_block <| wR rfl <| wA (.int .i64 0) rfl rfl <| wQ rfl <| wA (.int .i64 0) rfl rfl <| w_done ?_
  refine w_block <| w_loop <| w_sl 2 (.pointer (some ⟨b_a, 0, none⟩)) rfl <| w_sl 3 (.pointer (some ⟨b_b, 0, none⟩)) rfl <| w_sl 4 (.pointer (some ⟨b_t4, 0, none⟩)) rfl <| w_sl 5 (v_out) rfl <| w_sl 6 (.int .i64 i) rfl <| w_sl 7 (.int .i64 0) rfl <| w_sl 8 (.int .i64 0) rfl <| hh.l1 hle he h_a_1 h_b_1 h_out
 ·
  refine w_else rfl (df c8) <| w_exit rfl <| w_seq <| w_freeze h_out .here ?_
  intro H9 e10 h11
  obtain ⟨y12, hy13, he⟩ := bs he
  refine w_drawn (p := 7) (tl := [7, 8]) [[], [(0, some 68)], [], [(2, some 70)], [(1, some 69), (3, some 71)], [], [(5, some 73)]] [some 68, some 69, some 70, some 71, some 72, some 73, some 74] (fctF (.is (.pointer (some ⟨b_a, 0, none⟩)) :: .is (.bool a_0) :: .is (.pointer (some ⟨b_b, 0, none⟩)) :: .is (.bool b_0) :: .is (.bool (!(a_0 == b_0))) :: .is (v_out) :: .ro kI64 (y12) :: [])) (fun m_ => none :: some (b_t4, .cells ⟨[.bool false, .slice none 0 0]⟩ 84 (0, 0)) :: some (b_b, .cells ⟨[.bool b_0, v_b_1]⟩ 84 (0, 0)) :: some (b_a, .cells ⟨[.bool a_0, v_a_1]⟩ 84 (0, 0)) :: L) (fun _ => none) mixed (by kernel_rfl) (by kernel_rfl) rfl (fct_mono (by kernel_rfl)) ⟨(fun H' m_ hH hm_ hu_ => dn <| s_d (m_ 0) rfl (d_fld (o' := 0) Tryd.underlying84 rfl sz4 rfl rfl rfl) (by exact rfl) rfl), (by rintro H' m_ hH hm_ hu_ _ rfl; exact dn <| s_d (m_ 1) rfl (d_loado (v := .bool a_0) ty4 rfl (.there (.there (.there .here))) rfl rfl rfl rfl) (by exact rfl) rfl), (fun H' m_ hH hm_ hu_ => dn <| s_d (m_ 2) rfl (d_fld (o' := 0) Tryd.underlying84 rfl sz4 rfl rfl rfl) (by exact rfl) rfl), (by rintro H' m_ hH hm_ hu_ _ rfl; exact dn <| s_d (m_ 3) rfl (d_loado (v := .bool b_0) ty4 rfl (.there (.there .here)) rfl rfl rfl rfl) (by exact rfl) rfl), (by rintro H' m_ hH hm_ hu_ _ rfl _ rfl; exact dn <| s_d (m_ 4) rfl (d_neb (a := a_0) (b := b_0) Tryd.underlying4 rfl rfl) (by exact rfl) rfl), (fun H' m_ hH hm_ hu_ => dn <| s_d (m_ 5) rfl (d_move (v := v_out) rfl) (by exact rfl) rfl), (by rintro H' m_ hH hm_ hu_ _ rfl; exact dn <| s_k (m_ 6) rfl (o_call co73 (vs := [v_out]) rfl (radomeref01_trim.calls k hy13 (h11.mono hH))) rfl (by rintro v_ H_ _ ⟨rfl, e_, h_⟩; exact ⟨rfl, e_, h_⟩)), trivial⟩ ?_
  intro H18 e19
  rintro _ _ rfl _ _ rfl _ _ rfl _ _ rfl _ _ rfl _ _ rfl v16 _ (h17 : Ro kI64 H18 v16 y12)
  obtain ⟨y20, hy21, he⟩ := bs he
  refine w_a rfl (o_call co76 (vs := [.bool (!(a_0 == b_0)), v16]) rfl (radomeref01_num.calls k hy21 h17)) ?_
  rintro _ H22 _ ⟨rfl, e23, ⟨v24, rfl, h25⟩⟩
  refine w_a0 rfl (o_store (v := .agg ⟨[.bool y20.f_Neg, v24]⟩) sz84 rfl rfl rfl rfl (oc rfl (oc (h25.one) oz)) (.there .here) u2) ?_
  rintro _ _ _ ⟨rfl, rfl, rfl⟩
  refine w_done ?_
  obtain rfl := sj he
  refine w_return fn_61 rs_61 (.box (v := .agg ⟨[.bool y20.f_Neg, v24]⟩) rfl ty84 rfl rfl (.there .here) rfl .nil) <| ⟨⟨[_, _, _, _], rfl⟩, hle.trans ((e10.trans e19).trans e23), ⟨v24, rfl, h25⟩⟩
theorem radomeref01_Mul.j3_ok {k : Nat} {h : radomeref01_Mul.Hs} (hh : radomeref01_Mul.OK h) {H0 H : Hp} {L : Items} {r : radomeref01_Num} {jk_ : Nat → Value} {a_0 : Bool} {a_1 : List Int} {b_0 : Bool} {b_1 : List Int} {out : List Int} {i : Int} {c_ : Int} {j_ : Int} {v_ : Int} {v_a_1 : Value} {v_b_1 : Value} {v_out : Value} {i_out : Item'} {b_a : Nat} {b_b : Nat} {b_t4 : Nat} (hle : H0.le H) (he : radomeref01_Mul.j3 k h a_0 a_1 b_0 b_1 out i c_ j_ v_ = some r) (h_a_1 : Ro kI64 H v_a_1 a_1) (h_b_1 : Ro kI64 H v_b_1 b_1) (h_out : Sl kI64 H 3 i_out v_out out) : Wp Tryd.prog 61 76 radomeref01_Mul.Kj3 (upd (upd (upd (upd (upd (upd (upd (upd jk_ 2 (.pointer (some ⟨b_a, 0, none⟩))) 3 (.pointer (some ⟨b_b, 0, none⟩))) 4 (.pointer (some ⟨b_t4, 0, none⟩))) 5 (v_out)) 6 (.int .i64 i)) 7 (.int .i64 c_)) 8 (.int .i64 j_)) 9 (.int .i64 v_)) H (i_out :: some (b_t4, .cells ⟨[.bool false, .slice none 0 0]⟩ 84 (0, 0)) :: some (b_b, .cells ⟨[.bool b_0, v_b_1]⟩ 84 (0, 0)) :: some (b_a, .cells ⟨[.bool a_0, v_a_1]⟩ 84 (0, 0)) :: L) (radomeref01_Mul.R H0 L r) := by
 unfold radomeref01_Mul.j3 at he
 unfold radomeref01_Mul.Kj3
 refine wR rfl <| wM v_out rfl rfl <| wM (.int .i64 i) rfl rfl <| wM (.int .i64 j_) rfl rfl <| w_d rfl (d_add (c := w64 (i + j_)) rfl rfl rfl) <| wM (.int .i64 v_) rfl rfl <| w_d rfl (d_rem rfl rfl (by decide)) ?_
 obtain ⟨c33, he⟩ := rq he
 refine w_d rfl (d_indexS (sz := 1) Tryd.underlying41 sz3 rfl h_out.shp rfl c33) <| w_a0 rfl (o_storeEl (kd := kI64) (v := .int .i64 (Int.tmod v_ 10)) (F := fun z_ => z_ :: some (b_t4, .cells ⟨[.bool false, .slice none 0 0]⟩ 84 (0, 0)) :: some (b_b, .cells ⟨[.bool b_0, v_b_1]⟩ 84 (0, 0)) :: some (b_a, .cells ⟨[.bool a_0, v_a_1]⟩ 84 (0, 0)) :: L) sz3 rfl rfl rfl rfl h_out c33 (fun _ => .here)) ?_
 rintro _ _ _ ⟨i34, rfl, rfl, rfl, h35⟩
 refine w_done <| w_region rfl <| wM (.int .i64 v_) rfl rfl <| w_d rfl (d_quo (c := w64 (Int.tdiv v_ 10)) rfl rfl (by decide) rfl) <| wA (.int .i64 (w64 (Int.tdiv v_ 10))) rfl rfl <| w_done <| w_inBlock <| w_region rfl <| wM (.int .i64 j_) rfl rfl <| w_d rfl (d_add (c := w64 (j_ + 1)) rfl rfl rfl) <| wA (.int .i64 (w64 (j_ + 1))) rfl rfl <| w_done ?_
 refine w_inLoop <| w_sl 2 (.pointer (some ⟨b_a, 0, none⟩)) rfl <| w_sl 3 (.pointer (some ⟨b_b, 0, none⟩)) rfl <| w_sl 4 (.pointer (some ⟨b_t4, 0, none⟩)) rfl <| w_sl 5 (v_out) rfl <| w_sl 6 (.int .i64 i) rfl <| w_sl 7 (.int .i64 (w64 (Int.tdiv v_ 10))) rfl <| w_sl 8 (.int .i64 (w64 (j_ + 1))) rfl <| hh.l1 hle he h_a_1 h_b_1 h35
theorem radomeref01_Mul.b1_ok {k : Nat} {h : radomeref01_Mul.Hs} (hh : radomeref01_Mul.OK h) {H0 H : Hp} {L : Items} {r : radomeref01_Num} {jk_ : Nat → Value} {a_0 : Bool} {a_1 : List Int} {b_0 : Bool} {b_1 : List Int} {out : List Int} {i : Int} {c_ : Int} {j_ : Int} {v_a_1 : Value} {v_b_1 : Value} {v_out : Value} {i_out : Item'} {b_a : Nat} {b_b : Nat} {b_t4 : Nat} (hle : H0.le H) (he : radomeref01_Mul.b1 k h a_0 a_1 b_0 b_1 out i c_ j_ = some r) (h_a_1 : Ro kI64 H v_a_1 a_1) (h_b_1 : Ro kI64 H v_b_1 b_1) (h_out : Sl kI64 H 3 i_out v_out out) : Wp Tryd.prog 61 76 radomeref01_Mul.Kl1 (upd (upd (upd (upd (upd (upd (upd jk_ 2 (.pointer (some ⟨b_a, 0, none⟩))) 3 (.pointer (some ⟨b_b, 0, none⟩))) 4 (.pointer (some ⟨b_t4, 0, none⟩))) 5 (v_out)) 6 (.int .i64 i)) 7 (.int .i64 c_)) 8 (.int .i64 j_)) H (i_out :: some (b_t4, .cells ⟨[.bool false, .slice none 0 0]⟩ 84 (0, 0)) :: some (b_b, .cells ⟨[.bool b_0, v_b_1]⟩ 84 (0, 0)) :: some (b_a, .cells ⟨[.bool a_0, v_a_1]⟩ 84 (0, 0)) :: L) (radomeref01_Mul.R H0 L r) := by
 unfold radomeref01_Mul.b1 at he
 unfold radomeref01_Mul.Kl1
 refine w_seq <| wR rfl <| wM (.int .i64 j_) rfl rfl <| w_d rfl (d_fld (o' := 1) Tryd.underlying84 rfl sz41 rfl rfl rfl) <| wL v_b_1 ty41 rfl rfl (.there (.there .here)) rfl rfl <| w_d rfl (d_len Tryd.underlying41 rfl h_b_1.src) <| w_d rfl (d_leq rfl rfl) <| w_done ?_
 rcases its he with ⟨c26, he⟩ | ⟨c26, he⟩
 ·
  refine w_then rfl (dt c26) <| w_skip <| w_seq <| w_block <| wR rfl <| wM v_out rfl rfl <| wM (.int .i64 i) rfl rfl <| wM (.int .i64 j_) rfl rfl <| w_d rfl (d_add (c := w64 (i + j_)) rfl rfl rfl) ?_
  obtain ⟨c27, he⟩ := rq he
  refine w_d rfl (d_indexS (sz := 1) Tryd.underlying41 sz3 rfl h_out.shp rfl c27) <| w_d rfl (d_ldint ty3 rfl (h_out.src .here) c27) <| wM (.int .i64 c_) rfl rfl <| w_d rfl (d_add (c := w64 ((rd out (w64 (i + j_))) + c_)) rfl rfl rfl) <| wA (.int .i64 (w64 ((rd out (w64 (i + j_))) + c_))) rfl rfl <| wE <| wR rfl <| wM (.int .i64 j_) rfl rfl <| w_d rfl (d_fld (o' := 1) Tryd.underlying84 rfl sz41 rfl rfl rfl) <| wL v_b_1 ty41 rfl rfl (.there (.there .here)) rfl rfl ?_
  refine w_d rfl (d_len Tryd.underlying41 rfl h_b_1.src) <| w_d rfl (d_lss rfl rfl) <| w_done ?_
  rcases its he with ⟨c28, he⟩ | ⟨c28, he⟩
  ·
   refine w_then rfl (dt c28) ?_
   obtain ⟨c29, he⟩ := rq he
   obtain ⟨c30, he⟩ := rq he
   refine w_drawn (p := 12) (tl := [12, 13]) [[], [], [(1, some 47)], [], [(2, some 48), (3, some 49)], [(4, some 50)], [], [(6, some 52)], [], [(7, some 53), (8, some 54)], [(9, some 55)], [(5, some 51), (10, some 56)]] [some 46, some 47, some 48, some 49, some 50, some 51, some 52, some 53, some 54, some 55, some 56, some 57] (fctF (.is (.int .i64 (w64 ((rd out (w64 (i + j_))) + c_))) :: .is (.pointer (some ⟨b_a, 1, none⟩)) :: .is (v_a_1) :: .is (.int .i64 i) :: .is (.pointer (some (pel v_a_1 i 1))) :: .is (.int .i64 (rd a_1 i)) :: .is (.pointer (some ⟨b_b, 1, none⟩)) :: .is (v_b_1) :: .is (.int .i64 j_) :: .is (.pointer (some (pel v_b_1 j_ 1))) :: .is (.int .i64 (rd b_1 j_)) :: .is (.int .i64 (w64 ((rd a_1 i) * (rd b_1 j_)))) :: [])) (fun m_ => i_out :: some (b_t4, .cells ⟨[.bool false, .slice none 0 0]⟩ 84 (0, 0)) :: some (b_b, .cells ⟨[.bool b_0, v_b_1]⟩ 84 (0, 0)) :: some (b_a, .cells ⟨[.bool a_0, v_a_1]⟩ 84 (0, 0)) :: L) (fun _ => none) mixed (by kernel_rfl) (by kernel_rfl) rfl (fct_mono (by kernel_rfl)) ⟨(fun H' m_ hH hm_ hu_ => dn <| s_d (m_ 0) rfl (d_move (v := .int .i64 (w64 ((rd out (w64 (i + j_))) + c_))) rfl) (by exact rfl) rfl), (fun H' m_ hH hm_ hu_ => dn <| s_d (m_ 1) rfl (d_fld (o' := 1) Tryd.underlying84 rfl sz41 rfl rfl rfl) (by exact rfl) rfl), (by rintro H' m_ hH hm_ hu_ _ rfl; exact dn <| s_d (m_ 2) rfl (d_loado (v := v_a_1) ty41 rfl (.there (.there (.there .here))) rfl rfl rfl rfl) (by exact rfl) rfl), (fun H' m_ hH hm_ hu_ => dn <| s_d (m_ 3) rfl (d_move (v := .int .i64 i) rfl) (by exact rfl) rfl), (by rintro H' m_ hH hm_ hu_ _ rfl _ rfl; exact dn <| s_d (m_ 4) rfl (d_index (sz := 1) Tryd.underlying41 sz3 rfl (h_a_1.mono hH).src rfl c29) (by exact rfl) rfl), (by rintro H' m_ hH hm_ hu_ _ rfl; exact dn <| s_d (m_ 5) rfl (d_ldint ty3 rfl (h_a_1.mono hH).src c29) (by exact rfl) rfl), (fun H' m_ hH hm_ hu_ => dn <| s_d (m_ 6) rfl (d_fld (o' := 1) Tryd.underlying84 rfl sz41 rfl rfl rfl) (by exact rfl) rfl), (by rintro H' m_ hH hm_ hu_ _ rfl; exact dn <| s_d (m_ 7) rfl (d_loado (v := v_b_1) ty41 rfl (.there (.there .here)) rfl rfl rfl rfl) (by exact rfl) rfl), (fun H' m_ hH hm_ hu_ => dn <| s_d (m_ 8) rfl (d_move (v := .int .i64 j_) rfl) (by exact rfl) rfl), (by rintro H' m_ hH hm_ hu_ _ rfl _ rfl; exact dn <| s_d (m_ 9) rfl (d_index (sz := 1) Tryd.underlying41 sz3 rfl (h_b_1.mono hH).src rfl c30) (by exact rfl) rfl), (by rintro H' m_ hH hm_ hu_ _ rfl; exact dn <| s_d (m_ 10) rfl (d_ldint ty3 rfl (h_b_1.mono hH).src c30) (by exact rfl) rfl), (by rintro H' m_ hH hm_ hu_ _ rfl _ rfl; exact dn <| s_d (m_ 11) rfl (d_mul (c := w64 ((rd a_1 i) * (rd b_1 j_))) rfl rfl rfl) (by exact rfl) rfl), trivial⟩ ?_
   intro H31 e32
   rintro _ _ rfl _ _ rfl _ _ rfl _ _ rfl _ _ rfl _ _ rfl _ _ rfl _ _ rfl _ _ rfl _ _ rfl _ _ rfl _ _ rfl
   refine w_d rfl (d_add (c := w64 ((w64 ((rd out (w64 (i + j_))) + c_)) + (w64 ((rd a_1 i) * (rd b_1 j_))))) rfl rfl rfl) <| wA (.int .i64 (w64 ((w64 ((rd out (w64 (i + j_))) + c_)) + (w64 ((rd a_1 i) * (rd b_1 j_)))))) rfl rfl <| w_done <| w_sl 2 (.pointer (some ⟨b_a, 0, none⟩)) rfl <| w_sl 3 (.pointer (some ⟨b_b, 0, none⟩)) rfl <| w_sl 4 (.pointer (some ⟨b_t4, 0, none⟩)) rfl <| w_sl 5 (v_out) rfl <| w_sl 6 (.int .i64 i) rfl <| w_sl 7 (.int .i64 c_) rfl <| w_sl 8 (.int .i64 j_) rfl <| w_sl 9 (.int .i64 (w64 ((w64 ((rd out (w64 (i + j_))) + c_)) + (w64 ((rd a_1 i) * (rd b_1 j_)))))) rfl <| radomeref01_Mul.j3_ok (k := k) hh (hle.trans e32) he (h_a_1.mono e32) (h_b_1.mono e32) (h_out.mono e32)
  ·
   refine w_else rfl (df c28) <| w_skip <| w_sl 2 (.pointer (some ⟨b_a, 0, none⟩)) rfl <| w_sl 3 (.pointer (some ⟨b_b, 0, none⟩)) rfl <| w_sl 4 (.pointer (some ⟨b_t4, 0, none⟩)) rfl <| w_sl 5 (v_out) rfl <| w_sl 6 (.int .i64 i) rfl <| w_sl 7 (.int .i64 c_) rfl <| w_sl 8 (.int .i64 j_) rfl <| w_sl 9 (.int .i64 (w64 ((rd out (w64 (i + j_))) + c_))) rfl <| radomeref01_Mul.j3_ok (k := k) hh hle he h_a_1 h_b_1 h_out
 ·
  refine w_else rfl (df c26) <| w_exit rfl <| w_inBlock <| w_region rfl <| wM (.int .i64 i) rfl rfl <| w_d rfl (d_add (c := w64 (i + 1)) rfl rfl rfl) <| wA (.int .i64 (w64 (i + 1))) rfl rfl <| w_done <| w_inLoop <| w_sl 2 (.pointer (some ⟨b_a, 0, none⟩)) rfl <| w_sl 3 (.pointer (some ⟨b_b, 0, none⟩)) rfl <| w_sl 4 (.pointer (some ⟨b_t4, 0, none⟩)) rfl ?_
  refine w_sl 5 (v_out) rfl <| w_sl 6 (.int .i64 (w64 (i + 1))) rfl <| hh.l0 hle he h_a_1 h_b_1 h_out
theorem radomeref01_Mul.ok : ∀ k, radomeref01_Mul.OK (radomeref01_Mul.hs k)
 | 0 => ⟨(by intros; exact nomatch (show none = some _ from by assumption)), (by intros; exact nomatch (show none = some _ from by assumption))⟩
 | k + 1 => ⟨radomeref01_Mul.b0_ok (k := k) (radomeref01_Mul.ok k), radomeref01_Mul.b1_ok (k := k) (radomeref01_Mul.ok k)⟩
theorem radomeref01_Mul.calls (k : Nat) {H : Hp} {L : Items} {a : radomeref01_Num} {b : radomeref01_Num} {v0_a : Value} {v1_b : Value} {r : radomeref01_Num} (he : radomeref01_Mul.f k a b = some r) (h0_a : Ro kI64 H v0_a a.f_D) (h1_b : Ro kI64 H v1_b b.f_D) : Ct Tryd.prog 61 ⟨[.agg ⟨[.bool a.f_Neg, v0_a]⟩, .agg ⟨[.bool b.f_Neg, v1_b]⟩]⟩ H L (cR H L (radomeref01_Mul.out r)) := by
 refine ct_out (O := radomeref01_Mul.out r) ?_
 have hle : H.le H := .refl _
 have hh := radomeref01_Mul.ok k
 unfold radomeref01_Mul.f at he
 refine ct_enter (args := [.agg ⟨[.bool a.f_Neg, v0_a]⟩, .agg ⟨[.bool b.f_Neg, v1_b]⟩]) fn_61 rfl nt_61 rfl <| wR rfl <| w_a rfl (o_box (v := .agg ⟨[.bool a.f_Neg, v0_a]⟩) rfl rfl) ?_
 rintro _ _ _ ⟨b1, rfl, rfl, rfl⟩
 refine w_a rfl (o_box (v := .agg ⟨[.bool b.f_Neg, v1_b]⟩) rfl rfl) ?_
 rintro _ _ _ ⟨b2, rfl, rfl, rfl⟩
 refine w_a rfl (o_alloc zr84 rfl) ?_
 rintro _ _ _ ⟨b3, rfl, rfl, rfl⟩
 refine wQ rfl <| w_d rfl (d_fld (o' := 1) Tryd.underlying84 rfl sz41 rfl rfl rfl) <| wL v0_a ty41 rfl rfl (.there (.there .here)) rfl rfl <| w_d rfl (d_len Tryd.underlying41 rfl h0_a.src) <| w_d rfl (d_fld (o' := 1) Tryd.underlying84 rfl sz41 rfl rfl rfl) <| wL v1_b ty41 rfl rfl (.there .here) rfl rfl <| w_d rfl (d_len Tryd.underlying41 rfl h1_b.src) <| w_d rfl (d_add (c := w64 ((a.f_D.length : Int) + (b.f_D.length : Int))) rfl rfl rfl) <| w_d rfl (d_add (c := w64 ((w64 ((a.f_D.length : Int) + (b.f_D.length : Int))) + 1)) rfl rfl rfl) ?_
 obtain ⟨c4, he⟩ := rq he
 refine w_a rfl (o_make' (kd := kI64) (z0 := 0) Tryd.underlying41 ti3 (zp3 _) rfl rfl (by omega) (by omega) (by omega)) ?_
 rintro v5 _ _ ⟨i6, rfl, rfl, h7⟩
 refine wA v5 rfl rfl <| wE <| wR rfl <| wA (.int .i64 0) rfl rfl <| w_done <| w_block <| w_loop <| w_sl 2 (.pointer (some ⟨b1, 0, none⟩)) rfl <| w_sl 3 (.pointer (some ⟨b2, 0, none⟩)) rfl <| w_sl 4 (.pointer (some ⟨b3, 0, none⟩)) rfl ?_
 refine w_sl 5 (v5) rfl <| w_sl 6 (.int .i64 0) rfl <| hh.l0 hle he h0_a h1_b h7
noncomputable def radomeref01_plus.C : Code := (Tryd.f78.body).getD .skip
abbrev radomeref01_plus.out (r : (List Int)) (H : Hp) (v : Value) : Prop := Ro kI64 H v r
abbrev radomeref01_plus.R (H0 : Hp) (L : Items) (r : (List Int)) := fR H0 L (radomeref01_plus.out r)
structure radomeref01_plus.Hs where
 l0 : (List Int) → (List Int) → (List Int) → Int → Int → Option (List Int)
noncomputable def radomeref01_plus.j3 (k : Nat) (h : radomeref01_plus.Hs)  (a : List Int) (b : List Int) (out : List Int) (c_ : Int) (i : Int) : Option (List Int) := if out.length + 1 ≤ 17592186044288 then (h.l0 a b (out ++ [Int.tmod c_ 10]) (w64 (Int.tdiv c_ 10)) (w64 (i + 1))) else none
noncomputable def radomeref01_plus.j2 (k : Nat) (h : radomeref01_plus.Hs)  (a : List Int) (b : List Int) (out : List Int) (c_ : Int) (i : Int) : Option (List Int) := if i < (b.length : Int) then (if (0 : Int) ≤ i ∧ i < (b.length : Int) then (radomeref01_plus.j3 k h a b out (w64 (c_ + (rd b i))) i) else none) else (radomeref01_plus.j3 k h a b out c_ i)
noncomputable def radomeref01_plus.b0 (k : Nat) (h : radomeref01_plus.Hs)  (a : List Int) (b : List Int) (out : List Int) (c_ : Int) (i : Int) : Option (List Int) := if ((decide (i < (a.length : Int))) || (decide (i < (b.length : Int)))) = true then (if i < (a.length : Int) then (if (0 : Int) ≤ i ∧ i < (a.length : Int) then (radomeref01_plus.j2 k h a b out (w64 (c_ + (rd a i))) i) else none) else (radomeref01_plus.j2 k h a b out c_ i)) else (if out.length + 1 ≤ 17592186044288 then ((radomeref01_trim.f k (out ++ [c_])).bind fun y18 => some (y18)) else none)
noncomputable def radomeref01_plus.hs : Nat → radomeref01_plus.Hs
 | 0 => ⟨fun _ _ _ _ _ => none⟩
 | k + 1 => ⟨fun x0 x1 x2 x3 x4 => radomeref01_plus.b0 k (radomeref01_plus.hs k) x0 x1 x2 x3 x4⟩
noncomputable def radomeref01_plus.f (k : Nat) (a : List Int) (b : List Int) : Option (List Int) := (fun h : radomeref01_plus.Hs => h.l0 a b [] 0 0) (radomeref01_plus.hs k)
noncomputable def radomeref01_plus.Kl0 : List Item := .code (lopB (blkB (seqR (seqL (seqR (seqR (seqR radomeref01_plus.C))))))) :: .inLoop (lopB (blkB (seqR (seqL (seqR (seqR (seqR radomeref01_plus.C))))))) :: .inBlock 0 :: .code (seqR (seqR (seqR (seqR radomeref01_plus.C)))) :: []
noncomputable def radomeref01_plus.Kj2 : List Item := .code (seqR (blkB (seqL (seqR (lopB (blkB (seqR (seqL (seqR (seqR (seqR radomeref01_plus.C))))))))))) :: .inBlock 1 :: .code (seqR (seqR (lopB (blkB (seqR (seqL (seqR (seqR (seqR radomeref01_plus.C))))))))) :: .inLoop (lopB (blkB (seqR (seqL (seqR (seqR (seqR radomeref01_plus.C))))))) :: .inBlock 0 :: .code (seqR (seqR (seqR (seqR radomeref01_plus.C)))) :: []
noncomputable def radomeref01_plus.Kj3 : List Item := .code (seqR (seqR (blkB (seqL (seqR (lopB (blkB (seqR (seqL (seqR (seqR (seqR radomeref01_plus.C)))))))))))) :: .inBlock 1 :: .code (seqR (seqR (lopB (blkB (seqR (seqL (seqR (seqR (seqR radomeref01_plus.C))))))))) :: .inLoop (lopB (blkB (seqR (seqL (seqR (seqR (seqR radomeref01_plus.C))))))) :: .inBlock 0 :: .code (seqR (seqR (seqR (seqR radomeref01_plus.C)))) :: []
structure radomeref01_plus.OK (h : radomeref01_plus.Hs) : Prop where
 l0 : ∀ {H0 H : Hp} {L : Items} {r : (List Int)} {jk_ : Nat → Value} {a : List Int} {b : List Int} {out : List Int} {c_ : Int} {i : Int} {v_a : Value} {v_b : Value} {v_out : Value} {i_out : Item'} (_ : H0.le H) (_he : h.l0 a b out c_ i = some r) (_h_a : Src kI64 H L v_a a) (_h_b : Src kI64 H L v_b b) (_h_out : Sl kI64 H 3 i_out v_out out), Wp Tryd.prog 78 52 radomeref01_plus.Kl0 (upd (upd (upd (upd (upd (upd jk_ 0 (v_a)) 1 (v_b)) 4 (.slice none 0 0)) 5 (v_out)) 6 (.int .i64 c_)) 7 (.int .i64 i)) H (i_out :: L) (radomeref01_plus.R H0 L r)
theorem radomeref01_plus.j3_ok {k : Nat} {h : radomeref01_plus.Hs} (hh : radomeref01_plus.OK h) {H0 H : Hp} {L : Items} {r : (List Int)} {jk_ : Nat → Value} {a : List Int} {b : List Int} {out : List Int} {c_ : Int} {i : Int} {v_a : Value} {v_b : Value} {v_out : Value} {i_out : Item'} (hle : H0.le H) (he : radomeref01_plus.j3 k h a b out c_ i = some r) (h_a : Src kI64 H L v_a a) (h_b : Src kI64 H L v_b b) (h_out : Sl kI64 H 3 i_out v_out out) : Wp Tryd.prog 78 52 radomeref01_plus.Kj3 (upd (upd (upd (upd (upd (upd jk_ 0 (v_a)) 1 (v_b)) 4 (.slice none 0 0)) 5 (v_out)) 6 (.int .i64 c_)) 7 (.int .i64 i)) H (i_out :: L) (radomeref01_plus.R H0 L r) := by
 unfold radomeref01_plus.j3 at he
 unfold radomeref01_plus.Kj3
 refine wR rfl <| wM v_out rfl rfl <| wM (.int .i64 c_) rfl rfl <| w_d rfl (d_rem rfl rfl (by decide)) <| w_a rfl (o_buildSlice' (kd := kI64) (css := [[.int .i64 (Int.tmod c_ 10)]]) (xs := [Int.tmod c_ 10]) (parts := [(0, .int .i64 (Int.tmod c_ 10))]) Tryd.underlying41 ti3 rfl ⟨_, _, rfl, rfl, rfl⟩ ⟨rfl, trivial⟩ rfl (by decide)) ?_
 rintro v26 _ _ ⟨i27, rfl, rfl, h28⟩
 obtain ⟨c29, he⟩ := rq he
 refine w_a rfl (o_append' (kd := kI64) (F := fun z_ => i27 :: z_ :: L) Tryd.underlying41 Tryd.underlying41 ti3 rfl (by first | omega | (simp only [List.nil_append, List.length_cons, List.length_nil]; omega)) rfl rfl h_out (h28.src .here) (fun _ => (.there .here))) ?_
 rintro v30 _ _ ⟨i31, rfl, rfl, h32⟩
 refine wA v30 rfl rfl <| w_done <| w_region rfl <| wM (.int .i64 c_) rfl rfl <| w_d rfl (d_quo (c := w64 (Int.tdiv c_ 10)) rfl rfl (by decide) rfl) <| wA (.int .i64 (w64 (Int.tdiv c_ 10))) rfl rfl <| w_done <| w_inBlock <| w_region rfl <| wM (.int .i64 i) rfl rfl <| w_d rfl (d_add (c := w64 (i + 1)) rfl rfl rfl) <| wA (.int .i64 (w64 (i + 1))) rfl rfl ?_
 refine w_done <| w_inLoop <| w_del .here <| w_sl 0 (v_a) rfl <| w_sl 1 (v_b) rfl <| w_sl 4 (.slice none 0 0) rfl <| w_sl 5 (v30) rfl <| w_sl 6 (.int .i64 (w64 (Int.tdiv c_ 10))) rfl <| w_sl 7 (.int .i64 (w64 (i + 1))) rfl <| hh.l0 hle he h_a h_b h32
theorem radomeref01_plus.j2_ok {k : Nat} {h : radomeref01_plus.Hs} (hh : radomeref01_plus.OK h) {H0 H : Hp} {L : Items} {r : (List Int)} {jk_ : Nat → Value} {a : List Int} {b : List Int} {out : List Int} {c_ : Int} {i : Int} {v_a : Value} {v_b : Value} {v_out : Value} {i_out : Item'} (hle : H0.le H) (he : radomeref01_plus.j2 k h a b out c_ i = some r) (h_a : Src kI64 H L v_a a) (h_b : Src kI64 H L v_b b) (h_out : Sl kI64 H 3 i_out v_out out) : Wp Tryd.prog 78 52 radomeref01_plus.Kj2 (upd (upd (upd (upd (upd (upd jk_ 0 (v_a)) 1 (v_b)) 4 (.slice none 0 0)) 5 (v_out)) 6 (.int .i64 c_)) 7 (.int .i64 i)) H (i_out :: L) (radomeref01_plus.R H0 L r) := by
 unfold radomeref01_plus.j2 at he
 unfold radomeref01_plus.Kj2
 refine w_seq <| wR rfl <| wM (.int .i64 i) rfl rfl <| wM v_b rfl rfl <| w_d rfl (d_len Tryd.underlying41 rfl h_b.th) <| w_d rfl (d_lss rfl rfl) <| w_done ?_
 rcases its he with ⟨c24, he⟩ | ⟨c24, he⟩
 ·
  refine w_then rfl (dt c24) <| w_region rfl <| wM (.int .i64 c_) rfl rfl <| wM v_b rfl rfl <| wM (.int .i64 i) rfl rfl ?_
  obtain ⟨c25, he⟩ := rq he
  refine w_d rfl (d_index (sz := 1) Tryd.underlying41 sz3 rfl h_b.th rfl c25) <| w_d rfl (d_ldint ty3 rfl h_b.th c25) <| w_d rfl (d_add (c := w64 (c_ + (rd b i))) rfl rfl rfl) <| wA (.int .i64 (w64 (c_ + (rd b i)))) rfl rfl <| w_done <| w_sl 0 (v_a) rfl <| w_sl 1 (v_b) rfl <| w_sl 4 (.slice none 0 0) rfl <| w_sl 5 (v_out) rfl <| w_sl 6 (.int .i64 (w64 (c_ + (rd b i)))) rfl <| w_sl 7 (.int .i64 i) rfl <| radomeref01_plus.j3_ok (k := k) hh hle he h_a h_b h_out
 ·
  refine w_else rfl (df c24) <| w_skip <| w_sl 0 (v_a) rfl <| w_sl 1 (v_b) rfl <| w_sl 4 (.slice none 0 0) rfl <| w_sl 5 (v_out) rfl <| w_sl 6 (.int .i64 c_) rfl <| w_sl 7 (.int .i64 i) rfl <| radomeref01_plus.j3_ok (k := k) hh hle he h_a h_b h_out
theorem radomeref01_plus.b0_ok {k : Nat} {h : radomeref01_plus.Hs} (hh : radomeref01_plus.OK h) {H0 H : Hp} {L : Items} {r : (List Int)} {jk_ : Nat → Value} {a : List Int} {b : List Int} {out : List Int} {c_ : Int} {i : Int} {v_a : Value} {v_b : Value} {v_out : Value} {i_out : Item'} (hle : H0.le H) (he : radomeref01_plus.b0 k h a b out c_ i = some r) (h_a : Src kI64 H L v_a a) (h_b : Src kI64 H L v_b b) (h_out : Sl kI64 H 3 i_out v_out out) : Wp Tryd.prog 78 52 radomeref01_plus.Kl0 (upd (upd (upd (upd (upd (upd jk_ 0 (v_a)) 1 (v_b)) 4 (.slice none 0 0)) 5 (v_out)) 6 (.int .i64 c_)) 7 (.int .i64 i)) H (i_out :: L) (radomeref01_plus.R H0 L r) := by
 unfold radomeref01_plus.b0 at he
 unfold radomeref01_plus.Kl0
 refine w_seq <| wR rfl <| wM (.int .i64 i) rfl rfl <| wM v_a rfl rfl <| w_d rfl (d_len Tryd.underlying41 rfl h_a.th) <| w_d rfl (d_lss rfl rfl) <| wM (.bool (decide (i < (a.length : Int)))) rfl rfl <| w_g (g := !(decide (i < (a.length : Int)))) rfl rfl rfl wn_f (fun g1 => d_move (v := .int .i64 i) rfl) <| w_g (g := !(decide (i < (a.length : Int)))) rfl rfl rfl wn_f (fun g2 => d_move (v := v_b) rfl) <| w_g (g := !(decide (i < (a.length : Int)))) rfl rfl rfl wn_f (fun g3 => d_len Tryd.underlying41 (cvt g3) h_b.th) <| w_g (g := !(decide (i < (a.length : Int)))) rfl rfl rfl wn_f (fun g4 => d_lss (cvt g4) (cvt g4)) ?_
 refine w_d rfl (d_or' (b := (decide (i < (a.length : Int)))) (p := (decide (i < (b.length : Int)))) rfl rfl rfl) <| w_done ?_
 rcases its he with ⟨c5, he⟩ | ⟨c5, he⟩
 ·
  refine w_then rfl c5 <| w_skip <| w_seq <| w_block <| w_seq <| wR rfl <| wM (.int .i64 i) rfl rfl <| wM v_a rfl rfl <| w_d rfl (d_len Tryd.underlying41 rfl h_a.th) <| w_d rfl (d_lss rfl rfl) <| w_done ?_
  rcases its he with ⟨c6, he⟩ | ⟨c6, he⟩
  ·
   refine w_then rfl (dt c6) <| w_region rfl <| wM (.int .i64 c_) rfl rfl <| wM v_a rfl rfl <| wM (.int .i64 i) rfl rfl ?_
   obtain ⟨c7, he⟩ := rq he
   refine w_d rfl (d_index (sz := 1) Tryd.underlying41 sz3 rfl h_a.th rfl c7) <| w_d rfl (d_ldint ty3 rfl h_a.th c7) <| w_d rfl (d_add (c := w64 (c_ + (rd a i))) rfl rfl rfl) <| wA (.int .i64 (w64 (c_ + (rd a i)))) rfl rfl <| w_done <| w_sl 0 (v_a) rfl <| w_sl 1 (v_b) rfl <| w_sl 4 (.slice none 0 0) rfl <| w_sl 5 (v_out) rfl <| w_sl 6 (.int .i64 (w64 (c_ + (rd a i)))) rfl <| w_sl 7 (.int .i64 i) rfl <| radomeref01_plus.j2_ok (k := k) hh hle he h_a h_b h_out
  ·
   refine w_else rfl (df c6) <| w_skip <| w_sl 0 (v_a) rfl <| w_sl 1 (v_b) rfl <| w_sl 4 (.slice none 0 0) rfl <| w_sl 5 (v_out) rfl <| w_sl 6 (.int .i64 c_) rfl <| w_sl 7 (.int .i64 i) rfl <| radomeref01_plus.j2_ok (k := k) hh hle he h_a h_b h_out
 ·
  refine w_else rfl (Bool.eq_false_iff.2 c5) <| w_exit rfl <| wR rfl <| wM v_out rfl rfl <| wM (.int .i64 c_) rfl rfl <| w_a rfl (o_buildSlice' (kd := kI64) (css := [[.int .i64 c_]]) (xs := [c_]) (parts := [(0, .int .i64 c_)]) Tryd.underlying41 ti3 rfl ⟨_, _, rfl, rfl, rfl⟩ ⟨rfl, trivial⟩ rfl (by decide)) ?_
  rintro v8 _ _ ⟨i9, rfl, rfl, h10⟩
  obtain ⟨c11, he⟩ := rq he
  refine w_a rfl (o_append' (kd := kI64) (F := fun z_ => i9 :: z_ :: L) Tryd.underlying41 Tryd.underlying41 ti3 rfl (by first | omega | (simp only [List.nil_append, List.length_cons, List.length_nil]; omega)) rfl rfl h_out (h10.src .here) (fun _ => (.there .here))) ?_
  rintro v12 _ _ ⟨i13, rfl, rfl, h14⟩
  refine w_freeze h14 (.there .here) ?_
  intro H15 e16 h17
  obtain ⟨y18, hy19, he⟩ := bs he
  refine w_a rfl (o_call co73 (vs := [v12]) rfl (radomeref01_trim.calls k hy19 h17)) ?_
  rintro v22 H20 _ ⟨rfl, e21, h23⟩
  refine wA v22 rfl rfl <| w_done ?_
  obtain rfl := sj he
  refine w_return fn_78 rs_78 (.tmp (v := v22) rfl .nil) <| ⟨⟨[_, _], rfl⟩, hle.trans (e16.trans e21), h23⟩
theorem radomeref01_plus.ok : ∀ k, radomeref01_plus.OK (radomeref01_plus.hs k)
 | 0 => ⟨(by intros; exact nomatch (show none = some _ from by assumption))⟩
 | k + 1 => ⟨radomeref01_plus.b0_ok (k := k) (radomeref01_plus.ok k)⟩
theorem radomeref01_plus.calls (k : Nat) {H : Hp} {L : Items} {a : List Int} {b : List Int} {v0_a : Value} {v1_b : Value} {r : (List Int)} (he : radomeref01_plus.f k a b = some r) (h0_a : Src kI64 H L v0_a a) (h1_b : Src kI64 H L v1_b b) : Ct Tryd.prog 78 ⟨[v0_a, v1_b]⟩ H L (cR H L (radomeref01_plus.out r)) := by
 refine ct_out (O := radomeref01_plus.out r) ?_
 have hle : H.le H := .refl _
 have hh := radomeref01_plus.ok k
 unfold radomeref01_plus.f at he
 refine ct_enter (args := [v0_a, v1_b]) fn_78 rfl nt_78 rfl <| wR rfl <| wA (.slice none 0 0) rfl rfl <| wQ rfl <| wA (.slice none 0 0) rfl rfl <| wQ rfl <| wA (.int .i64 0) rfl rfl ?_
 refine wE <| wR rfl <| wA (.int .i64 0) rfl rfl <| w_done <| w_block <| w_loop <| w_none <| w_sl 0 (v0_a) rfl <| w_sl 1 (v1_b) rfl <| w_sl 4 (.slice none 0 0) rfl ?_
 refine w_sl 5 (.slice none 0 0) rfl <| w_sl 6 (.int .i64 0) rfl <| w_sl 7 (.int .i64 0) rfl <| hh.l0 hle he h0_a h1_b (sl_nil _ _ _)
noncomputable def radomeref01_Less.C : Code := (Tryd.f74.body).getD .skip
def radomeref01_Less.out (r : Bool) (H : Hp) (v : Value) : Prop := v = .bool r
abbrev radomeref01_Less.R (H0 : Hp) (L : Items) (r : Bool) := fR H0 L (radomeref01_Less.out r)
structure radomeref01_Less.Hs where
 l0 : (List Int) → (List Int) → Bool → Int → Option Bool
noncomputable def radomeref01_Less.b0 (k : Nat) (h : radomeref01_Less.Hs)  (a : List Int) (b : List Int) (t4 : Bool) (i : Int) : Option Bool := if 0 ≤ i then (if (0 : Int) ≤ i ∧ i < (a.length : Int) then (if (0 : Int) ≤ i ∧ i < (b.length : Int) then (if (rd a i) = (rd b i) then (h.l0 a b t4 (w64 (i - 1))) else (if (0 : Int) ≤ i ∧ i < (a.length : Int) then (if (0 : Int) ≤ i ∧ i < (b.length : Int) then (some (decide ((rd a i) < (rd b i)))) else none) else none)) else none) else none) else (some (false))
noncomputable def radomeref01_Less.hs : Nat → radomeref01_Less.Hs
 | 0 => ⟨fun _ _ _ _ => none⟩
 | k + 1 => ⟨fun x0 x1 x2 x3 => radomeref01_Less.b0 k (radomeref01_Less.hs k) x0 x1 x2 x3⟩
noncomputable def radomeref01_Less.f (k : Nat) (a : List Int) (b : List Int) : Option Bool := (fun h : radomeref01_Less.Hs => if (a.length : Int) = (b.length : Int) then (h.l0 a b false (w64 ((a.length : Int) - 1))) else (some (decide ((a.length : Int) < (b.length : Int))))) (radomeref01_Less.hs k)
noncomputable def radomeref01_Less.Kl0 : List Item := .code (lopB (blkB (seqR (seqL (seqR (seqR radomeref01_Less.C)))))) :: .inLoop (lopB (blkB (seqR (seqL (seqR (seqR radomeref01_Less.C)))))) :: .inBlock 0 :: .code (seqR (seqR (seqR radomeref01_Less.C))) :: []
structure radomeref01_Less.OK (h : radomeref01_Less.Hs) : Prop where
 l0 : ∀ {H0 H : Hp} {L : Items} {r : Bool} {jk_ : Nat → Value} {a : List Int} {b : List Int} {t4 : Bool} {i : Int} {v_a : Value} {v_b : Value} (_ : H0.le H) (_he : h.l0 a b t4 i = some r) (_h_a : Src kI64 H L v_a a) (_h_b : Src kI64 H L v_b b), Wp Tryd.prog 74 41 radomeref01_Less.Kl0 (upd (upd (upd (upd jk_ 0 (v_a)) 1 (v_b)) 4 (.bool t4)) 5 (.int .i64 i)) H (L) (radomeref01_Less.R H0 L r)
theorem radomeref01_Less.b0_ok {k : Nat} {h : radomeref01_Less.Hs} (hh : radomeref01_Less.OK h) {H0 H : Hp} {L : Items} {r : Bool} {jk_ : Nat → Value} {a : List Int} {b : List Int} {t4 : Bool} {i : Int} {v_a : Value} {v_b : Value} (hle : H0.le H) (he : radomeref01_Less.b0 k h a b t4 i = some r) (h_a : Src kI64 H L v_a a) (h_b : Src kI64 H L v_b b) : Wp Tryd.prog 74 41 radomeref01_Less.Kl0 (upd (upd (upd (upd jk_ 0 (v_a)) 1 (v_b)) 4 (.bool t4)) 5 (.int .i64 i)) H (L) (radomeref01_Less.R H0 L r) := by
 unfold radomeref01_Less.b0 at he
 unfold radomeref01_Less.Kl0
 refine w_seq <| wR rfl <| wM (.int .i64 i) rfl rfl <| w_d rfl (d_geq rfl rfl) <| w_done ?_
 rcases its he with ⟨c2, he⟩ | ⟨c2, he⟩
 ·
  refine w_then rfl (dt c2) <| w_skip <| w_seq <| w_block <| w_seq ?_
  obtain ⟨c3, he⟩ := rq he
  obtain ⟨c4, he⟩ := rq he
  refine w_drawn (p := 8) (tl := [8]) [[], [], [(0, some 23), (1, some 24)], [(2, some 25)], [], [], [(4, some 27), (5, some 28)], [(6, some 29)]] [some 23, some 24, some 25, some 26, some 27, some 28, some 29, some 30] (fctF (.is (v_a) :: .is (.int .i64 i) :: .is (.pointer (some (pel v_a i 1))) :: .is (.int .i64 (rd a i)) :: .is (v_b) :: .is (.int .i64 i) :: .is (.pointer (some (pel v_b i 1))) :: .is (.int .i64 (rd b i)) :: [])) (fun m_ => L) (fun _ => none) mixed (by kernel_rfl) (by kernel_rfl) rfl (fct_mono (by kernel_rfl)) ⟨(fun H' m_ hH hm_ hu_ => dn <| s_d (m_ 0) rfl (d_move (v := v_a) rfl) (by exact rfl) rfl), (fun H' m_ hH hm_ hu_ => dn <| s_d (m_ 1) rfl (d_move (v := .int .i64 i) rfl) (by exact rfl) rfl), (by rintro H' m_ hH hm_ hu_ _ rfl _ rfl; exact dn <| s_d (m_ 2) rfl (d_index (sz := 1) Tryd.underlying41 sz3 rfl (h_a.mono hH) rfl c3) (by exact rfl) rfl), (by rintro H' m_ hH hm_ hu_ _ rfl; exact dn <| s_d (m_ 3) rfl (d_ldint ty3 rfl (h_a.mono hH) c3) (by exact rfl) rfl), (fun H' m_ hH hm_ hu_ => dn <| s_d (m_ 4) rfl (d_move (v := v_b) rfl) (by exact rfl) rfl), (fun H' m_ hH hm_ hu_ => dn <| s_d (m_ 5) rfl (d_move (v := .int .i64 i) rfl) (by exact rfl) rfl), (by rintro H' m_ hH hm_ hu_ _ rfl _ rfl; exact dn <| s_d (m_ 6) rfl (d_index (sz := 1) Tryd.underlying41 sz3 rfl (h_b.mono hH) rfl c4) (by exact rfl) rfl), (by rintro H' m_ hH hm_ hu_ _ rfl; exact dn <| s_d (m_ 7) rfl (d_ldint ty3 rfl (h_b.mono hH) c4) (by exact rfl) rfl), trivial⟩ ?_
  intro H5 e6
  rintro _ _ rfl _ _ rfl _ _ rfl _ _ rfl _ _ rfl _ _ rfl _ _ rfl _ _ rfl
  refine w_d rfl (d_neq rfl rfl) <| w_done ?_
  rcases its he with ⟨c7, he⟩ | ⟨c7, he⟩
  ·
   refine w_else rfl (nd_t c7) <| w_skip <| w_inBlock <| w_region rfl <| wM (.int .i64 i) rfl rfl <| w_d rfl (d_sub (c := w64 (i - 1)) rfl rfl rfl) <| wA (.int .i64 (w64 (i - 1))) rfl rfl <| w_done <| w_inLoop <| w_sl 0 (v_a) rfl <| w_sl 1 (v_b) rfl <| w_sl 4 (.bool t4) rfl ?_
   refine w_sl 5 (.int .i64 (w64 (i - 1))) rfl <| hh.l0 (hle.trans e6) he (h_a.mono e6) (h_b.mono e6)
  ·
   refine w_then rfl (nd_f c7) <| w_seq ?_
   obtain ⟨c8, he⟩ := rq he
   obtain ⟨c9, he⟩ := rq he
   refine w_drawn (p := 8) (tl := [8, 9]) [[], [], [(0, some 32), (1, some 33)], [(2, some 34)], [], [], [(4, some 36), (5, some 37)], [(6, some 38)]] [some 32, some 33, some 34, some 35, some 36, some 37, some 38, some 39] (fctF (.is (v_a) :: .is (.int .i64 i) :: .is (.pointer (some (pel v_a i 1))) :: .is (.int .i64 (rd a i)) :: .is (v_b) :: .is (.int .i64 i) :: .is (.pointer (some (pel v_b i 1))) :: .is (.int .i64 (rd b i)) :: [])) (fun m_ => L) (fun _ => none) mixed (by kernel_rfl) (by kernel_rfl) rfl (fct_mono (by kernel_rfl)) ⟨(fun H' m_ hH hm_ hu_ => dn <| s_d (m_ 0) rfl (d_move (v := v_a) rfl) (by exact rfl) rfl), (fun H' m_ hH hm_ hu_ => dn <| s_d (m_ 1) rfl (d_move (v := .int .i64 i) rfl) (by exact rfl) rfl), (by rintro H' m_ hH hm_ hu_ _ rfl _ rfl; exact dn <| s_d (m_ 2) rfl (d_index (sz := 1) Tryd.underlying41 sz3 rfl (h_a.mono (e6.trans hH)) rfl c8) (by exact rfl) rfl), (by rintro H' m_ hH hm_ hu_ _ rfl; exact dn <| s_d (m_ 3) rfl (d_ldint ty3 rfl (h_a.mono (e6.trans hH)) c8) (by exact rfl) rfl), (fun H' m_ hH hm_ hu_ => dn <| s_d (m_ 4) rfl (d_move (v := v_b) rfl) (by exact rfl) rfl), (fun H' m_ hH hm_ hu_ => dn <| s_d (m_ 5) rfl (d_move (v := .int .i64 i) rfl) (by exact rfl) rfl), (by rintro H' m_ hH hm_ hu_ _ rfl _ rfl; exact dn <| s_d (m_ 6) rfl (d_index (sz := 1) Tryd.underlying41 sz3 rfl (h_b.mono (e6.trans hH)) rfl c9) (by exact rfl) rfl), (by rintro H' m_ hH hm_ hu_ _ rfl; exact dn <| s_d (m_ 7) rfl (d_ldint ty3 rfl (h_b.mono (e6.trans hH)) c9) (by exact rfl) rfl), trivial⟩ ?_
   intro H10 e11
   rintro _ _ rfl _ _ rfl _ _ rfl _ _ rfl _ _ rfl _ _ rfl _ _ rfl _ _ rfl
   refine w_d rfl (d_lss rfl rfl) <| wA (.bool (decide ((rd a i) < (rd b i)))) rfl rfl <| w_done ?_
   obtain rfl := sj he
   refine w_return fn_74 rs_74 (.tmp (v := .bool (decide ((rd a i) < (rd b i)))) rfl .nil) <| ⟨⟨[], rfl⟩, hle.trans (e6.trans e11), rfl⟩
 ·
  refine w_else rfl (df c2) <| w_exit rfl <| wR rfl <| wA (.bool false) rfl rfl <| w_done ?_
  obtain rfl := sj he
  refine w_return fn_74 rs_74 (.tmp (v := .bool false) rfl .nil) <| ⟨⟨[], rfl⟩, hle, rfl⟩
theorem radomeref01_Less.ok : ∀ k, radomeref01_Less.OK (radomeref01_Less.hs k)
 | 0 => ⟨(by intros; exact nomatch (show none = some _ from by assumption))⟩
 | k + 1 => ⟨radomeref01_Less.b0_ok (k := k) (radomeref01_Less.ok k)⟩
theorem radomeref01_Less.calls (k : Nat) {H : Hp} {L : Items} {a : List Int} {b : List Int} {v0_a : Value} {v1_b : Value} {r : Bool} (he : radomeref01_Less.f k a b = some r) (h0_a : Src kI64 H L v0_a a) (h1_b : Src kI64 H L v1_b b) : Ct Tryd.prog 74 ⟨[v0_a, v1_b]⟩ H L (fun v H' L' => L = L' ∧ H = H' ∧ v = .bool r) := by
 refine ct_outs (O := radomeref01_Less.out r) (fun _ _ h => h) ?_
 have hle : H.le H := .refl _
 have hh := radomeref01_Less.ok k
 unfold radomeref01_Less.f at he
 refine ct_enter (args := [v0_a, v1_b]) fn_74 rfl nt_74 rfl <| wR rfl <| wA (.bool false) rfl rfl <| wE <| wR rfl <| wM v0_a rfl rfl <| w_d rfl (d_len Tryd.underlying41 rfl h0_a) <| wM v1_b rfl rfl <| w_d rfl (d_len Tryd.underlying41 rfl h1_b) ?_
 refine w_d rfl (d_neq rfl rfl) <| w_done ?_
 rcases its he with ⟨c1, he⟩ | ⟨c1, he⟩
 ·
  refine w_else rfl (nd_t c1) <| w_skip <| w_seq <| wR rfl <| wM v0_a rfl rfl <| w_d rfl (d_len Tryd.underlying41 rfl h0_a) <| w_d rfl (d_sub (c := w64 ((a.length : Int) - 1)) rfl rfl rfl) <| wA (.int .i64 (w64 ((a.length : Int) - 1))) rfl rfl <| w_done <| w_block <| w_loop ?_
  refine w_sl 0 (v0_a) rfl <| w_sl 1 (v1_b) rfl <| w_sl 4 (.bool false) rfl <| w_sl 5 (.int .i64 (w64 ((a.length : Int) - 1))) rfl <| hh.l0 hle he h0_a h1_b
 ·
  refine w_then rfl (nd_f c1) <| wR rfl <| wM v0_a rfl rfl <| w_d rfl (d_len Tryd.underlying41 rfl h0_a) <| wM v1_b rfl rfl <| w_d rfl (d_len Tryd.underlying41 rfl h1_b) <| w_d rfl (d_lss rfl rfl) <| wA (.bool (decide ((a.length : Int) < (b.length : Int)))) rfl rfl <| w_done ?_
  obtain rfl := sj he
  refine w_return fn_74 rs_74 (.tmp (v := .bool (decide ((a.length : Int) < (b.length : Int)))) rfl .nil) <| ⟨⟨[], rfl⟩, hle, rfl⟩
noncomputable def radomeref01_minus.C : Code := (Tryd.f75.body).getD .skip
abbrev radomeref01_minus.out (r : (List Int)) (H : Hp) (v : Value) : Prop := Ro kI64 H v r
abbrev radomeref01_minus.R (H0 : Hp) (L : Items) (r : (List Int)) := fR H0 L (radomeref01_minus.out r)
structure radomeref01_minus.Hs where
 l0 : (List Int) → (List Int) → (List Int) → Int → Int → Option (List Int)
noncomputable def radomeref01_minus.j3 (k : Nat) (h : radomeref01_minus.Hs)  (a : List Int) (b : List Int) (out : List Int) (c_ : Int) (i : Int) (v_ : Int) : Option (List Int) := if out.length + 1 ≤ 17592186044288 then (h.l0 a b (out ++ [v_]) c_ (w64 (i + 1))) else none
noncomputable def radomeref01_minus.j2 (k : Nat) (h : radomeref01_minus.Hs)  (a : List Int) (b : List Int) (out : List Int) (c_ : Int) (i : Int) (v_ : Int) : Option (List Int) := if v_ < 0 then (radomeref01_minus.j3 k h a b out 1 i (w64 (v_ + 10))) else (radomeref01_minus.j3 k h a b out 0 i v_)
noncomputable def radomeref01_minus.b0 (k : Nat) (h : radomeref01_minus.Hs)  (a : List Int) (b : List Int) (out : List Int) (c_ : Int) (i : Int) : Option (List Int) := if i < (a.length : Int) then (if (0 : Int) ≤ i ∧ i < (a.length : Int) then (if i < (b.length : Int) then (if (0 : Int) ≤ i ∧ i < (b.length : Int) then (radomeref01_minus.j2 k h a b out c_ i (w64 ((w64 ((rd a i) - c_)) - (rd b i)))) else none) else (radomeref01_minus.j2 k h a b out c_ i (w64 ((rd a i) - c_)))) else none) else ((radomeref01_trim.f k out).bind fun y8 => some (y8))
noncomputable def radomeref01_minus.hs : Nat → radomeref01_minus.Hs
 | 0 => ⟨fun _ _ _ _ _ => none⟩
 | k + 1 => ⟨fun x0 x1 x2 x3 x4 => radomeref01_minus.b0 k (radomeref01_minus.hs k) x0 x1 x2 x3 x4⟩
noncomputable def radomeref01_minus.f (k : Nat) (a : List Int) (b : List Int) : Option (List Int) := (fun h : radomeref01_minus.Hs => h.l0 a b [] 0 0) (radomeref01_minus.hs k)
noncomputable def radomeref01_minus.Kl0 : List Item := .code (lopB (blkB (seqR (seqL (seqR (seqR (seqR radomeref01_minus.C))))))) :: .inLoop (lopB (blkB (seqR (seqL (seqR (seqR (seqR radomeref01_minus.C))))))) :: .inBlock 0 :: .code (seqR (seqR (seqR (seqR radomeref01_minus.C)))) :: []
noncomputable def radomeref01_minus.Kj2 : List Item := .code (seqR (seqR (blkB (seqL (seqR (lopB (blkB (seqR (seqL (seqR (seqR (seqR radomeref01_minus.C)))))))))))) :: .inBlock 1 :: .code (seqR (seqR (lopB (blkB (seqR (seqL (seqR (seqR (seqR radomeref01_minus.C))))))))) :: .inLoop (lopB (blkB (seqR (seqL (seqR (seqR (seqR radomeref01_minus.C))))))) :: .inBlock 0 :: .code (seqR (seqR (seqR (seqR radomeref01_minus.C)))) :: []
noncomputable def radomeref01_minus.Kj3 : List Item := .code (seqR (seqR (seqR (seqR (blkB (seqL (seqR (lopB (blkB (seqR (seqL (seqR (seqR (seqR radomeref01_minus.C)))))))))))))) :: .inBlock 1 :: .code (seqR (seqR (lopB (blkB (seqR (seqL (seqR (seqR (seqR radomeref01_minus.C))))))))) :: .inLoop (lopB (blkB (seqR (seqL (seqR (seqR (seqR radomeref01_minus.C))))))) :: .inBlock 0 :: .code (seqR (seqR (seqR (seqR radomeref01_minus.C)))) :: []
structure radomeref01_minus.OK (h : radomeref01_minus.Hs) : Prop where
 l0 : ∀ {H0 H : Hp} {L : Items} {r : (List Int)} {jk_ : Nat → Value} {a : List Int} {b : List Int} {out : List Int} {c_ : Int} {i : Int} {v_a : Value} {v_b : Value} {v_out : Value} {i_out : Item'} (_ : H0.le H) (_he : h.l0 a b out c_ i = some r) (_h_a : Src kI64 H L v_a a) (_h_b : Src kI64 H L v_b b) (_h_out : Sl kI64 H 3 i_out v_out out), Wp Tryd.prog 75 41 radomeref01_minus.Kl0 (upd (upd (upd (upd (upd (upd jk_ 0 (v_a)) 1 (v_b)) 4 (.slice none 0 0)) 5 (v_out)) 6 (.int .i64 c_)) 7 (.int .i64 i)) H (i_out :: L) (radomeref01_minus.R H0 L r)
theorem radomeref01_minus.j3_ok {k : Nat} {h : radomeref01_minus.Hs} (hh : radomeref01_minus.OK h) {H0 H : Hp} {L : Items} {r : (List Int)} {jk_ : Nat → Value} {a : List Int} {b : List Int} {out : List Int} {c_ : Int} {i : Int} {v_ : Int} {v_a : Value} {v_b : Value} {v_out : Value} {i_out : Item'} (hle : H0.le H) (he : radomeref01_minus.j3 k h a b out c_ i v_ = some r) (h_a : Src kI64 H L v_a a) (h_b : Src kI64 H L v_b b) (h_out : Sl kI64 H 3 i_out v_out out) : Wp Tryd.prog 75 41 radomeref01_minus.Kj3 (upd (upd (upd (upd (upd (upd (upd jk_ 0 (v_a)) 1 (v_b)) 4 (.slice none 0 0)) 5 (v_out)) 6 (.int .i64 c_)) 7 (.int .i64 i)) 8 (.int .i64 v_)) H (i_out :: L) (radomeref01_minus.R H0 L r) := by
 unfold radomeref01_minus.j3 at he
 unfold radomeref01_minus.Kj3
 refine w_region rfl <| wM v_out rfl rfl <| wM (.int .i64 v_) rfl rfl <| w_a rfl (o_buildSlice' (kd := kI64) (css := [[.int .i64 v_]]) (xs := [v_]) (parts := [(0, .int .i64 v_)]) Tryd.underlying41 ti3 rfl ⟨_, _, rfl, rfl, rfl⟩ ⟨rfl, trivial⟩ rfl (by decide)) ?_
 rintro v15 _ _ ⟨i16, rfl, rfl, h17⟩
 obtain ⟨c18, he⟩ := rq he
 refine w_a rfl (o_append' (kd := kI64) (F := fun z_ => i16 :: z_ :: L) Tryd.underlying41 Tryd.underlying41 ti3 rfl (by first | omega | (simp only [List.nil_append, List.length_cons, List.length_nil]; omega)) rfl rfl h_out (h17.src .here) (fun _ => (.there .here))) ?_
 rintro v19 _ _ ⟨i20, rfl, rfl, h21⟩
 refine wA v19 rfl rfl <| w_done <| w_inBlock <| w_region rfl <| wM (.int .i64 i) rfl rfl <| w_d rfl (d_add (c := w64 (i + 1)) rfl rfl rfl) <| wA (.int .i64 (w64 (i + 1))) rfl rfl <| w_done <| w_inLoop <| w_del .here <| w_sl 0 (v_a) rfl <| w_sl 1 (v_b) rfl ?_
 refine w_sl 4 (.slice none 0 0) rfl <| w_sl 5 (v19) rfl <| w_sl 6 (.int .i64 c_) rfl <| w_sl 7 (.int .i64 (w64 (i + 1))) rfl <| hh.l0 hle he h_a h_b h21
theorem radomeref01_minus.j2_ok {k : Nat} {h : radomeref01_minus.Hs} (hh : radomeref01_minus.OK h) {H0 H : Hp} {L : Items} {r : (List Int)} {jk_ : Nat → Value} {a : List Int} {b : List Int} {out : List Int} {c_ : Int} {i : Int} {v_ : Int} {v_a : Value} {v_b : Value} {v_out : Value} {i_out : Item'} (hle : H0.le H) (he : radomeref01_minus.j2 k h a b out c_ i v_ = some r) (h_a : Src kI64 H L v_a a) (h_b : Src kI64 H L v_b b) (h_out : Sl kI64 H 3 i_out v_out out) : Wp Tryd.prog 75 41 radomeref01_minus.Kj2 (upd (upd (upd (upd (upd (upd (upd jk_ 0 (v_a)) 1 (v_b)) 4 (.slice none 0 0)) 5 (v_out)) 6 (.int .i64 c_)) 7 (.int .i64 i)) 8 (.int .i64 v_)) H (i_out :: L) (radomeref01_minus.R H0 L r) := by
 unfold radomeref01_minus.j2 at he
 unfold radomeref01_minus.Kj2
 refine wR rfl <| wA (.int .i64 0) rfl rfl <| wE <| wR rfl <| wM (.int .i64 v_) rfl rfl <| w_d rfl (d_lss rfl rfl) <| w_done ?_
 rcases its he with ⟨c14, he⟩ | ⟨c14, he⟩
 ·
  refine w_then rfl (dt c14) <| wR rfl <| wM (.int .i64 v_) rfl rfl <| w_d rfl (d_add (c := w64 (v_ + 10)) rfl rfl rfl) <| wA (.int .i64 (w64 (v_ + 10))) rfl rfl <| w_done <| w_region rfl <| wA (.int .i64 1) rfl rfl <| w_done <| w_sl 0 (v_a) rfl <| w_sl 1 (v_b) rfl ?_
  refine w_sl 4 (.slice none 0 0) rfl <| w_sl 5 (v_out) rfl <| w_sl 6 (.int .i64 1) rfl <| w_sl 7 (.int .i64 i) rfl <| w_sl 8 (.int .i64 (w64 (v_ + 10))) rfl <| radomeref01_minus.j3_ok (k := k) hh hle he h_a h_b h_out
 ·
  refine w_else rfl (df c14) <| w_skip <| w_sl 0 (v_a) rfl <| w_sl 1 (v_b) rfl <| w_sl 4 (.slice none 0 0) rfl <| w_sl 5 (v_out) rfl <| w_sl 6 (.int .i64 0) rfl <| w_sl 7 (.int .i64 i) rfl <| w_sl 8 (.int .i64 v_) rfl <| radomeref01_minus.j3_ok (k := k) hh hle he h_a h_b h_out
theorem radomeref01_minus.b0_ok {k : Nat} {h : radomeref01_minus.Hs} (hh : radomeref01_minus.OK h) {H0 H : Hp} {L : Items} {r : (List Int)} {jk_ : Nat → Value} {a : List Int} {b : List Int} {out : List Int} {c_ : Int} {i : Int} {v_a : Value} {v_b : Value} {v_out : Value} {i_out : Item'} (hle : H0.le H) (he : radomeref01_minus.b0 k h a b out c_ i = some r) (h_a : Src kI64 H L v_a a) (h_b : Src kI64 H L v_b b) (h_out : Sl kI64 H 3 i_out v_out out) : Wp Tryd.prog 75 41 radomeref01_minus.Kl0 (upd (upd (upd (upd (upd (upd jk_ 0 (v_a)) 1 (v_b)) 4 (.slice none 0 0)) 5 (v_out)) 6 (.int .i64 c_)) 7 (.int .i64 i)) H (i_out :: L) (radomeref01_minus.R H0 L r) := by
 unfold radomeref01_minus.b0 at he
 unfold radomeref01_minus.Kl0
 refine w_seq <| wR rfl <| wM (.int .i64 i) rfl rfl <| wM v_a rfl rfl <| w_d rfl (d_len Tryd.underlying41 rfl h_a.th) <| w_d rfl (d_lss rfl rfl) <| w_done ?_
 rcases its he with ⟨c1, he⟩ | ⟨c1, he⟩
 ·
  refine w_then rfl (dt c1) <| w_skip <| w_seq <| w_block <| wR rfl <| wM v_a rfl rfl <| wM (.int .i64 i) rfl rfl ?_
  obtain ⟨c2, he⟩ := rq he
  refine w_d rfl (d_index (sz := 1) Tryd.underlying41 sz3 rfl h_a.th rfl c2) <| w_d rfl (d_ldint ty3 rfl h_a.th c2) <| wM (.int .i64 c_) rfl rfl <| w_d rfl (d_sub (c := w64 ((rd a i) - c_)) rfl rfl rfl) <| wA (.int .i64 (w64 ((rd a i) - c_))) rfl rfl <| wE <| wR rfl <| wM (.int .i64 i) rfl rfl <| wM v_b rfl rfl <| w_d rfl (d_len Tryd.underlying41 rfl h_b.th) ?_
  refine w_d rfl (d_lss rfl rfl) <| w_done ?_
  rcases its he with ⟨c3, he⟩ | ⟨c3, he⟩
  ·
   refine w_then rfl (dt c3) <| w_region rfl <| wM (.int .i64 (w64 ((rd a i) - c_))) rfl rfl <| wM v_b rfl rfl <| wM (.int .i64 i) rfl rfl ?_
   obtain ⟨c4, he⟩ := rq he
   refine w_d rfl (d_index (sz := 1) Tryd.underlying41 sz3 rfl h_b.th rfl c4) <| w_d rfl (d_ldint ty3 rfl h_b.th c4) <| w_d rfl (d_sub (c := w64 ((w64 ((rd a i) - c_)) - (rd b i))) rfl rfl rfl) <| wA (.int .i64 (w64 ((w64 ((rd a i) - c_)) - (rd b i)))) rfl rfl <| w_done <| w_sl 0 (v_a) rfl <| w_sl 1 (v_b) rfl <| w_sl 4 (.slice none 0 0) rfl <| w_sl 5 (v_out) rfl <| w_sl 6 (.int .i64 c_) rfl <| w_sl 7 (.int .i64 i) rfl <| w_sl 8 (.int .i64 (w64 ((w64 ((rd a i) - c_)) - (rd b i)))) rfl <| radomeref01_minus.j2_ok (k := k) hh hle he h_a h_b h_out
  ·
   refine w_else rfl (df c3) <| w_skip <| w_sl 0 (v_a) rfl <| w_sl 1 (v_b) rfl <| w_sl 4 (.slice none 0 0) rfl <| w_sl 5 (v_out) rfl <| w_sl 6 (.int .i64 c_) rfl <| w_sl 7 (.int .i64 i) rfl <| w_sl 8 (.int .i64 (w64 ((rd a i) - c_))) rfl <| radomeref01_minus.j2_ok (k := k) hh hle he h_a h_b h_out
 ·
  refine w_else rfl (df c1) <| w_exit rfl <| wR rfl <| wM v_out rfl rfl <| w_freeze h_out .here ?_
  intro H5 e6 h7
  obtain ⟨y8, hy9, he⟩ := bs he
  refine w_a rfl (o_call co73 (vs := [v_out]) rfl (radomeref01_trim.calls k hy9 h7)) ?_
  rintro v12 H10 _ ⟨rfl, e11, h13⟩
  refine wA v12 rfl rfl <| w_done ?_
  obtain rfl := sj he
  refine w_return fn_75 rs_75 (.tmp (v := v12) rfl .nil) <| ⟨⟨[_], rfl⟩, hle.trans (e6.trans e11), h13⟩
theorem radomeref01_minus.ok : ∀ k, radomeref01_minus.OK (radomeref01_minus.hs k)
 | 0 => ⟨(by intros; exact nomatch (show none = some _ from by assumption))⟩
 | k + 1 => ⟨radomeref01_minus.b0_ok (k := k) (radomeref01_minus.ok k)⟩
theorem radomeref01_minus.calls (k : Nat) {H : Hp} {L : Items} {a : List Int} {b : List Int} {v0_a : Value} {v1_b : Value} {r : (List Int)} (he : radomeref01_minus.f k a b = some r) (h0_a : Src kI64 H L v0_a a) (h1_b : Src kI64 H L v1_b b) : Ct Tryd.prog 75 ⟨[v0_a, v1_b]⟩ H L (cR H L (radomeref01_minus.out r)) := by
 refine ct_out (O := radomeref01_minus.out r) ?_
 have hle : H.le H := .refl _
 have hh := radomeref01_minus.ok k
 unfold radomeref01_minus.f at he
 refine ct_enter (args := [v0_a, v1_b]) fn_75 rfl nt_75 rfl <| wR rfl <| wA (.slice none 0 0) rfl rfl <| wQ rfl <| wA (.slice none 0 0) rfl rfl <| wQ rfl <| wA (.int .i64 0) rfl rfl ?_
 refine wE <| wR rfl <| wA (.int .i64 0) rfl rfl <| w_done <| w_block <| w_loop <| w_none <| w_sl 0 (v0_a) rfl <| w_sl 1 (v1_b) rfl <| w_sl 4 (.slice none 0 0) rfl ?_
 refine w_sl 5 (.slice none 0 0) rfl <| w_sl 6 (.int .i64 0) rfl <| w_sl 7 (.int .i64 0) rfl <| hh.l0 hle he h0_a h1_b (sl_nil _ _ _)
noncomputable def radomeref01_Add.C : Code := (Tryd.f59.body).getD .skip
def radomeref01_Add.out (r : radomeref01_Num) (H : Hp) (v : Value) : Prop := ∃ v0, v = .agg ⟨[.bool r.f_Neg, v0]⟩ ∧ Ro kI64 H v0 r.f_D
theorem radomeref01_Add.out_mono (r : radomeref01_Num) {H H' : Hp} {v : Value} (hle : H.le H') (h : radomeref01_Add.out r H v) : radomeref01_Add.out r H' v := by
 obtain ⟨v0, rfl, h0⟩ := h; exact ⟨v0, rfl, h0.mono hle⟩
noncomputable def radomeref01_Add.f (k : Nat) (a : radomeref01_Num) (b : radomeref01_Num) : Option radomeref01_Num := if (a.f_Neg == b.f_Neg) = true then ((radomeref01_plus.f k a.f_D b.f_D).bind fun y5 => (radomeref01_num.f k a.f_Neg y5).bind fun y13 => some (y13)) else ((radomeref01_Less.f k a.f_D b.f_D).bind fun y19 => if y19 = true then ((radomeref01_minus.f k b.f_D a.f_D).bind fun y24 => (radomeref01_num.f k b.f_Neg y24).bind fun y32 => some (y32)) else ((radomeref01_minus.f k a.f_D b.f_D).bind fun y38 => (radomeref01_num.f k a.f_Neg y38).bind fun y46 => some (y46)))
theorem radomeref01_Add.calls (k : Nat) {H : Hp} {L : Items} {a : radomeref01_Num} {b : radomeref01_Num} {v0_a : Value} {v1_b : Value} {r : radomeref01_Num} (he : radomeref01_Add.f k a b = some r) (h0_a : Ro kI64 H v0_a a.f_D) (h1_b : Ro kI64 H v1_b b.f_D) : Ct Tryd.prog 59 ⟨[.agg ⟨[.bool a.f_Neg, v0_a]⟩, .agg ⟨[.bool b.f_Neg, v1_b]⟩]⟩ H L (cR H L (radomeref01_Add.out r)) := by
 refine ct_out (O := radomeref01_Add.out r) ?_
 have hle : H.le H := .refl _
 unfold radomeref01_Add.f at he
 refine ct_enter (args := [.agg ⟨[.bool a.f_Neg, v0_a]⟩, .agg ⟨[.bool b.f_Neg, v1_b]⟩]) fn_59 rfl nt_59 rfl <| wR rfl <| w_a rfl (o_box (v := .agg ⟨[.bool a.f_Neg, v0_a]⟩) rfl rfl) ?_
 rintro _ _ _ ⟨b1, rfl, rfl, rfl⟩
 refine w_a rfl (o_box (v := .agg ⟨[.bool b.f_Neg, v1_b]⟩) rfl rfl) ?_
 rintro _ _ _ ⟨b2, rfl, rfl, rfl⟩
 refine w_a rfl (o_alloc zr84 rfl) ?_
 rintro _ _ _ ⟨b3, rfl, rfl, rfl⟩
 refine wE <| wR rfl <| w_d rfl (d_fld (o' := 0) Tryd.underlying84 rfl sz4 rfl rfl rfl) <| wL (.bool a.f_Neg) ty4 rfl rfl (.there (.there .here)) rfl rfl <| w_d rfl (d_fld (o' := 0) Tryd.underlying84 rfl sz4 rfl rfl rfl) <| wL (.bool b.f_Neg) ty4 rfl rfl (.there .here) rfl rfl <| w_d rfl (d_eqb (a := a.f_Neg) (b := b.f_Neg) Tryd.underlying4 rfl rfl) <| w_done ?_
 rcases its he with ⟨c4, he⟩ | ⟨c4, he⟩
 ·
  refine w_then rfl c4 <| w_seq ?_
  obtain ⟨y5, hy6, he⟩ := bs he
  refine w_drawn (p := 7) (tl := [7, 8]) [[], [(0, some 10)], [], [(2, some 12)], [], [(4, some 14)], [(3, some 13), (5, some 15)]] [some 10, some 11, some 12, some 13, some 14, some 15, some 16] (fctF (.is (.pointer (some ⟨b1, 0, none⟩)) :: .is (.bool a.f_Neg) :: .is (.pointer (some ⟨b1, 1, none⟩)) :: .is (v0_a) :: .is (.pointer (some ⟨b2, 1, none⟩)) :: .is (v1_b) :: .ro kI64 (y5) :: [])) (fun m_ => some (b3, .cells ⟨[.bool false, .slice none 0 0]⟩ 84 (0, 0)) :: some (b2, .cells ⟨[.bool b.f_Neg, v1_b]⟩ 84 (0, 0)) :: some (b1, .cells ⟨[.bool a.f_Neg, v0_a]⟩ 84 (0, 0)) :: L) (fun _ => none) mixed (by kernel_rfl) (by kernel_rfl) rfl (fct_mono (by kernel_rfl)) ⟨(fun H' m_ hH hm_ hu_ => dn <| s_d (m_ 0) rfl (d_fld (o' := 0) Tryd.underlying84 rfl sz4 rfl rfl rfl) (by exact rfl) rfl), (by rintro H' m_ hH hm_ hu_ _ rfl; exact dn <| s_d (m_ 1) rfl (d_loado (v := .bool a.f_Neg) ty4 rfl (.there (.there .here)) rfl rfl rfl rfl) (by exact rfl) rfl), (fun H' m_ hH hm_ hu_ => dn <| s_d (m_ 2) rfl (d_fld (o' := 1) Tryd.underlying84 rfl sz41 rfl rfl rfl) (by exact rfl) rfl), (by rintro H' m_ hH hm_ hu_ _ rfl; exact dn <| s_d (m_ 3) rfl (d_loado (v := v0_a) ty41 rfl (.there (.there .here)) rfl rfl rfl rfl) (by exact rfl) rfl), (fun H' m_ hH hm_ hu_ => dn <| s_d (m_ 4) rfl (d_fld (o' := 1) Tryd.underlying84 rfl sz41 rfl rfl rfl) (by exact rfl) rfl), (by rintro H' m_ hH hm_ hu_ _ rfl; exact dn <| s_d (m_ 5) rfl (d_loado (v := v1_b) ty41 rfl (.there .here) rfl rfl rfl rfl) (by exact rfl) rfl), (by rintro H' m_ hH hm_ hu_ _ rfl _ rfl; exact dn <| s_k (m_ 6) rfl (o_call co78 (vs := [v0_a, v1_b]) rfl (radomeref01_plus.calls k hy6 ((h0_a.mono hH).src) ((h1_b.mono hH).src))) rfl (by rintro v_ H_ _ ⟨rfl, e_, h_⟩; exact ⟨rfl, e_, h_⟩)), trivial⟩ ?_
  intro H11 e12
  rintro _ _ rfl _ _ rfl _ _ rfl _ _ rfl _ _ rfl _ _ rfl v9 _ (h10 : Ro kI64 H11 v9 y5)
  obtain ⟨y13, hy14, he⟩ := bs he
  refine w_a rfl (o_call co76 (vs := [.bool a.f_Neg, v9]) rfl (radomeref01_num.calls k hy14 h10)) ?_
  rintro _ H15 _ ⟨rfl, e16, ⟨v17, rfl, h18⟩⟩
  refine w_a0 rfl (o_store (v := .agg ⟨[.bool y13.f_Neg, v17]⟩) sz84 rfl rfl rfl rfl (oc rfl (oc (h18.one) oz)) .here u2) ?_
  rintro _ _ _ ⟨rfl, rfl, rfl⟩
  refine w_done ?_
  obtain rfl := sj he
  refine w_return fn_59 rs_59 (.box (v := .agg ⟨[.bool y13.f_Neg, v17]⟩) rfl ty84 rfl rfl .here rfl .nil) <| ⟨⟨[_, _, _], rfl⟩, hle.trans (e12.trans e16), ⟨v17, rfl, h18⟩⟩
 ·
  refine w_else rfl (Bool.eq_false_iff.2 c4) <| w_skip <| w_seq <| wR rfl <| w_d rfl (d_fld (o' := 1) Tryd.underlying84 rfl sz41 rfl rfl rfl) <| wL v0_a ty41 rfl rfl (.there (.there .here)) rfl rfl <| w_d rfl (d_fld (o' := 1) Tryd.underlying84 rfl sz41 rfl rfl rfl) <| wL v1_b ty41 rfl rfl (.there .here) rfl rfl ?_
  obtain ⟨y19, hy20, he⟩ := bs he
  refine w_d rfl (call_d (o_call co74 (vs := [v0_a, v1_b]) rfl (radomeref01_Less.calls k hy20 h0_a.src h1_b.src))) <| w_done ?_
  rcases its he with ⟨c23, he⟩ | ⟨c23, he⟩
  ·
   refine w_then rfl c23 <| w_seq ?_
   obtain ⟨y24, hy25, he⟩ := bs he
   refine w_drawn (p := 7) (tl := [7, 8]) [[], [(0, some 23)], [], [(2, some 25)], [], [(4, some 27)], [(3, some 26), (5, some 28)]] [some 23, some 24, some 25, some 26, some 27, some 28, some 29] (fctF (.is (.pointer (some ⟨b2, 0, none⟩)) :: .is (.bool b.f_Neg) :: .is (.pointer (some ⟨b2, 1, none⟩)) :: .is (v1_b) :: .is (.pointer (some ⟨b1, 1, none⟩)) :: .is (v0_a) :: .ro kI64 (y24) :: [])) (fun m_ => some (b3, .cells ⟨[.bool false, .slice none 0 0]⟩ 84 (0, 0)) :: some (b2, .cells ⟨[.bool b.f_Neg, v1_b]⟩ 84 (0, 0)) :: some (b1, .cells ⟨[.bool a.f_Neg, v0_a]⟩ 84 (0, 0)) :: L) (fun _ => none) mixed (by kernel_rfl) (by kernel_rfl) rfl (fct_mono (by kernel_rfl)) ⟨(fun H' m_ hH hm_ hu_ => dn <| s_d (m_ 0) rfl (d_fld (o' := 0) Tryd.underlying84 rfl sz4 rfl rfl rfl) (by exact rfl) rfl), (by rintro H' m_ hH hm_ hu_ _ rfl; exact dn <| s_d (m_ 1) rfl (d_loado (v := .bool b.f_Neg) ty4 rfl (.there .here) rfl rfl rfl rfl) (by exact rfl) rfl), (fun H' m_ hH hm_ hu_ => dn <| s_d (m_ 2) rfl (d_fld (o' := 1) Tryd.underlying84 rfl sz41 rfl rfl rfl) (by exact rfl) rfl), (by rintro H' m_ hH hm_ hu_ _ rfl; exact dn <| s_d (m_ 3) rfl (d_loado (v := v1_b) ty41 rfl (.there .here) rfl rfl rfl rfl) (by exact rfl) rfl), (fun H' m_ hH hm_ hu_ => dn <| s_d (m_ 4) rfl (d_fld (o' := 1) Tryd.underlying84 rfl sz41 rfl rfl rfl) (by exact rfl) rfl), (by rintro H' m_ hH hm_ hu_ _ rfl; exact dn <| s_d (m_ 5) rfl (d_loado (v := v0_a) ty41 rfl (.there (.there .here)) rfl rfl rfl rfl) (by exact rfl) rfl), (by rintro H' m_ hH hm_ hu_ _ rfl _ rfl; exact dn <| s_k (m_ 6) rfl (o_call co75 (vs := [v1_b, v0_a]) rfl (radomeref01_minus.calls k hy25 ((h1_b.mono hH).src) ((h0_a.mono hH).src))) rfl (by rintro v_ H_ _ ⟨rfl, e_, h_⟩; exact ⟨rfl, e_, h_⟩)), trivial⟩ ?_
   intro H30 e31
   rintro _ _ rfl _ _ rfl _ _ rfl _ _ rfl _ _ rfl _ _ rfl v28 _ (h29 : Ro kI64 H30 v28 y24)
   obtain ⟨y32, hy33, he⟩ := bs he
   refine w_a rfl (o_call co76 (vs := [.bool b.f_Neg, v28]) rfl (radomeref01_num.calls k hy33 h29)) ?_
   rintro _ H34 _ ⟨rfl, e35, ⟨v36, rfl, h37⟩⟩
   refine w_a0 rfl (o_store (v := .agg ⟨[.bool y32.f_Neg, v36]⟩) sz84 rfl rfl rfl rfl (oc rfl (oc (h37.one) oz)) .here u2) ?_
   rintro _ _ _ ⟨rfl, rfl, rfl⟩
   refine w_done ?_
   obtain rfl := sj he
   refine w_return fn_59 rs_59 (.box (v := .agg ⟨[.bool y32.f_Neg, v36]⟩) rfl ty84 rfl rfl .here rfl .nil) <| ⟨⟨[_, _, _], rfl⟩, hle.trans (e31.trans e35), ⟨v36, rfl, h37⟩⟩
  ·
   refine w_else rfl (Bool.eq_false_iff.2 c23) <| w_skip <| w_seq ?_
   obtain ⟨y38, hy39, he⟩ := bs he
   refine w_drawn (p := 7) (tl := [7, 8]) [[], [(0, some 31)], [], [(2, some 33)], [], [(4, some 35)], [(3, some 34), (5, some 36)]] [some 31, some 32, some 33, some 34, some 35, some 36, some 37] (fctF (.is (.pointer (some ⟨b1, 0, none⟩)) :: .is (.bool a.f_Neg) :: .is (.pointer (some ⟨b1, 1, none⟩)) :: .is (v0_a) :: .is (.pointer (some ⟨b2, 1, none⟩)) :: .is (v1_b) :: .ro kI64 (y38) :: [])) (fun m_ => some (b3, .cells ⟨[.bool false, .slice none 0 0]⟩ 84 (0, 0)) :: some (b2, .cells ⟨[.bool b.f_Neg, v1_b]⟩ 84 (0, 0)) :: some (b1, .cells ⟨[.bool a.f_Neg, v0_a]⟩ 84 (0, 0)) :: L) (fun _ => none) mixed (by kernel_rfl) (by kernel_rfl) rfl (fct_mono (by kernel_rfl)) ⟨(fun H' m_ hH hm_ hu_ => dn <| s_d (m_ 0) rfl (d_fld (o' := 0) Tryd.underlying84 rfl sz4 rfl rfl rfl) (by exact rfl) rfl), (by rintro H' m_ hH hm_ hu_ _ rfl; exact dn <| s_d (m_ 1) rfl (d_loado (v := .bool a.f_Neg) ty4 rfl (.there (.there .here)) rfl rfl rfl rfl) (by exact rfl) rfl), (fun H' m_ hH hm_ hu_ => dn <| s_d (m_ 2) rfl (d_fld (o' := 1) Tryd.underlying84 rfl sz41 rfl rfl rfl) (by exact rfl) rfl), (by rintro H' m_ hH hm_ hu_ _ rfl; exact dn <| s_d (m_ 3) rfl (d_loado (v := v0_a) ty41 rfl (.there (.there .here)) rfl rfl rfl rfl) (by exact rfl) rfl), (fun H' m_ hH hm_ hu_ => dn <| s_d (m_ 4) rfl (d_fld (o' := 1) Tryd.underlying84 rfl sz41 rfl rfl rfl) (by exact rfl) rfl), (by rintro H' m_ hH hm_ hu_ _ rfl; exact dn <| s_d (m_ 5) rfl (d_loado (v := v1_b) ty41 rfl (.there .here) rfl rfl rfl rfl) (by exact rfl) rfl), (by rintro H' m_ hH hm_ hu_ _ rfl _ rfl; exact dn <| s_k (m_ 6) rfl (o_call co75 (vs := [v0_a, v1_b]) rfl (radomeref01_minus.calls k hy39 ((h0_a.mono hH).src) ((h1_b.mono hH).src))) rfl (by rintro v_ H_ _ ⟨rfl, e_, h_⟩; exact ⟨rfl, e_, h_⟩)), trivial⟩ ?_
   intro H44 e45
   rintro _ _ rfl _ _ rfl _ _ rfl _ _ rfl _ _ rfl _ _ rfl v42 _ (h43 : Ro kI64 H44 v42 y38)
   obtain ⟨y46, hy47, he⟩ := bs he
   refine w_a rfl (o_call co76 (vs := [.bool a.f_Neg, v42]) rfl (radomeref01_num.calls k hy47 h43)) ?_
   rintro _ H48 _ ⟨rfl, e49, ⟨v50, rfl, h51⟩⟩
   refine w_a0 rfl (o_store (v := .agg ⟨[.bool y46.f_Neg, v50]⟩) sz84 rfl rfl rfl rfl (oc rfl (oc (h51.one) oz)) .here u2) ?_
   rintro _ _ _ ⟨rfl, rfl, rfl⟩
   refine w_done ?_
   obtain rfl := sj he
   refine w_return fn_59 rs_59 (.box (v := .agg ⟨[.bool y46.f_Neg, v50]⟩) rfl ty84 rfl rfl .here rfl .nil) <| ⟨⟨[_, _, _], rfl⟩, hle.trans (e45.trans e49), ⟨v50, rfl, h51⟩⟩
noncomputable def radomeref01_Two.C : Code := (Tryd.f42.body).getD .skip
def radomeref01_Two.out (r : radomeref01_Num) (H : Hp) (v : Value) : Prop := ∃ v0, v = .agg ⟨[.bool r.f_Neg, v0]⟩ ∧ Ro kI64 H v0 r.f_D
theorem radomeref01_Two.out_mono (r : radomeref01_Num) {H H' : Hp} {v : Value} (hle : H.le H') (h : radomeref01_Two.out r H v) : radomeref01_Two.out r H' v := by
 obtain ⟨v0, rfl, h0⟩ := h; exact ⟨v0, rfl, h0.mono hle⟩
abbrev radomeref01_Two.R (H0 : Hp) (L : Items) (r : radomeref01_Num) := fR H0 L (radomeref01_Two.out r)
structure radomeref01_Two.Hs where
 l0 : Int → Bool → (List Int) → Int → Option radomeref01_Num
 l1 : Int → Bool → (List Int) → Int → Option radomeref01_Num
noncomputable def radomeref01_Two.b0 (k : Nat) (h : radomeref01_Two.Hs)  (n : Int) (x_0 : Bool) (x_1 : List Int) (i : Int) : Option radomeref01_Num := if (w64 (i + 30)) ≤ n then ((radomeref01_Of.f k 1073741824).bind fun y10 => (radomeref01_Mul.f k (⟨x_0, x_1⟩ : radomeref01_Num) y10).bind fun y18 => h.l0 n y18.f_Neg y18.f_D (w64 (i + 30))) else (h.l1 n x_0 x_1 0)
noncomputable def radomeref01_Two.b1 (k : Nat) (h : radomeref01_Two.Hs)  (n : Int) (x_0 : Bool) (x_1 : List Int) (i : Int) : Option radomeref01_Num := if i < (Int.tmod n 30) then ((radomeref01_Add.f k (⟨x_0, x_1⟩ : radomeref01_Num) (⟨x_0, x_1⟩ : radomeref01_Num)).bind fun y25 => h.l1 n y25.f_Neg y25.f_D (w64 (i + 1))) else (some ((⟨x_0, x_1⟩ : radomeref01_Num)))
noncomputable def radomeref01_Two.hs : Nat → radomeref01_Two.Hs
 | 0 => ⟨fun _ _ _ _ => none, fun _ _ _ _ => none⟩
 | k + 1 => ⟨fun x0 x1 x2 x3 => radomeref01_Two.b0 k (radomeref01_Two.hs k) x0 x1 x2 x3, fun x0 x1 x2 x3 => radomeref01_Two.b1 k (radomeref01_Two.hs k) x0 x1 x2 x3⟩
noncomputable def radomeref01_Two.f (k : Nat) (n : Int) : Option radomeref01_Num := (fun h : radomeref01_Two.Hs => (radomeref01_Of.f k 1).bind fun y2 => h.l0 n y2.f_Neg y2.f_D 0) (radomeref01_Two.hs k)
noncomputable def radomeref01_Two.Kl0 : List Item := .code (lopB (blkB (seqR (seqL (seqR (seqR radomeref01_Two.C)))))) :: .inLoop (lopB (blkB (seqR (seqL (seqR (seqR radomeref01_Two.C)))))) :: .inBlock 0 :: .code (seqR (seqR (seqR radomeref01_Two.C))) :: []
noncomputable def radomeref01_Two.Kl1 : List Item := .code (lopB (blkB (seqR (seqL (seqR (seqR (seqR radomeref01_Two.C))))))) :: .inLoop (lopB (blkB (seqR (seqL (seqR (seqR (seqR radomeref01_Two.C))))))) :: .inBlock 2 :: .code (seqR (seqR (seqR (seqR radomeref01_Two.C)))) :: []
structure radomeref01_Two.OK (h : radomeref01_Two.Hs) : Prop where
 l0 : ∀ {H0 H : Hp} {L : Items} {r : radomeref01_Num} {jk_ : Nat → Value} {n : Int} {x_0 : Bool} {x_1 : List Int} {i : Int} {v_x_1 : Value} {b_t2 : Nat} {b_x : Nat} (_ : H0.le H) (_he : h.l0 n x_0 x_1 i = some r) (_h_x_1 : Ro kI64 H v_x_1 x_1), Wp Tryd.prog 42 26 radomeref01_Two.Kl0 (upd (upd (upd (upd jk_ 0 (.int .i64 n)) 2 (.pointer (some ⟨b_t2, 0, none⟩))) 3 (.pointer (some ⟨b_x, 0, none⟩))) 4 (.int .i64 i)) H (some (b_x, .cells ⟨[.bool x_0, v_x_1]⟩ 84 (0, 0)) :: some (b_t2, .cells ⟨[.bool false, .slice none 0 0]⟩ 84 (0, 0)) :: L) (radomeref01_Two.R H0 L r)
 l1 : ∀ {H0 H : Hp} {L : Items} {r : radomeref01_Num} {jk_ : Nat → Value} {n : Int} {x_0 : Bool} {x_1 : List Int} {i : Int} {v_x_1 : Value} {b_t2 : Nat} {b_x : Nat} (_ : H0.le H) (_he : h.l1 n x_0 x_1 i = some r) (_h_x_1 : Ro kI64 H v_x_1 x_1), Wp Tryd.prog 42 26 radomeref01_Two.Kl1 (upd (upd (upd (upd jk_ 0 (.int .i64 n)) 2 (.pointer (some ⟨b_t2, 0, none⟩))) 3 (.pointer (some ⟨b_x, 0, none⟩))) 5 (.int .i64 i)) H (some (b_x, .cells ⟨[.bool x_0, v_x_1]⟩ 84 (0, 0)) :: some (b_t2, .cells ⟨[.bool false, .slice none 0 0]⟩ 84 (0, 0)) :: L) (radomeref01_Two.R H0 L r)
theorem radomeref01_Two.b0_ok {k : Nat} {h : radomeref01_Two.Hs} (hh : radomeref01_Two.OK h) {H0 H : Hp} {L : Items} {r : radomeref01_Num} {jk_ : Nat → Value} {n : Int} {x_0 : Bool} {x_1 : List Int} {i : Int} {v_x_1 : Value} {b_t2 : Nat} {b_x : Nat} (hle : H0.le H) (he : radomeref01_Two.b0 k h n x_0 x_1 i = some r) (h_x_1 : Ro kI64 H v_x_1 x_1) : Wp Tryd.prog 42 26 radomeref01_Two.Kl0 (upd (upd (upd (upd jk_ 0 (.int .i64 n)) 2 (.pointer (some ⟨b_t2, 0, none⟩))) 3 (.pointer (some ⟨b_x, 0, none⟩))) 4 (.int .i64 i)) H (some (b_x, .cells ⟨[.bool x_0, v_x_1]⟩ 84 (0, 0)) :: some (b_t2, .cells ⟨[.bool false, .slice none 0 0]⟩ 84 (0, 0)) :: L) (radomeref01_Two.R H0 L r) := by
 unfold radomeref01_Two.b0 at he
 unfold radomeref01_Two.Kl0
 refine w_seq <| wR rfl <| wM (.int .i64 i) rfl rfl <| w_d rfl (d_add (c := w64 (i + 30)) rfl rfl rfl) <| wM (.int .i64 n) rfl rfl <| w_d rfl (d_leq rfl rfl) <| w_done ?_
 rcases its he with ⟨c9, he⟩ | ⟨c9, he⟩
 ·
  refine w_then rfl (dt c9) <| w_skip <| w_seq <| w_block ?_
  obtain ⟨y10, hy11, he⟩ := bs he
  refine w_drawn (p := 2) (tl := [2, 3]) [[], []] [some 13, some 14] (fctF (.is (.agg ⟨[.bool x_0, v_x_1]⟩) :: .of (radomeref01_Of.out y10) (radomeref01_Of.out_mono _) :: [])) (fun m_ => some (b_x, .cells ⟨[.bool x_0, v_x_1]⟩ 84 (0, 0)) :: some (b_t2, .cells ⟨[.bool false, .slice none 0 0]⟩ 84 (0, 0)) :: L) (fun _ => none) mixed (by kernel_rfl) (by kernel_rfl) rfl (fct_mono (by kernel_rfl)) ⟨(fun H' m_ hH hm_ hu_ => dn <| s_d (m_ 0) rfl (d_loado (v := .agg ⟨[.bool x_0, v_x_1]⟩) ty84 rfl .here rfl rfl rfl rfl) (by exact rfl) rfl), (fun H' m_ hH hm_ hu_ => dn <| s_k (m_ 1) rfl (o_call co41 (vs := [.int .i64 1073741824]) rfl (radomeref01_Of.calls k hy11)) rfl (by rintro v_ H_ _ ⟨rfl, e_, h_⟩; exact ⟨rfl, e_, h_⟩)), trivial⟩ ?_
  intro H16 e17
  rintro _ _ rfl _ _ ⟨v14, rfl, h15⟩
  obtain ⟨y18, hy19, he⟩ := bs he
  refine w_a rfl (o_call co61 (vs := [.agg ⟨[.bool x_0, v_x_1]⟩, .agg ⟨[.bool y10.f_Neg, v14]⟩]) rfl (radomeref01_Mul.calls k (a := ⟨x_0, x_1⟩) (b := y10) hy19 (h_x_1.mono e17) h15)) ?_
  rintro _ H20 _ ⟨rfl, e21, ⟨v22, rfl, h23⟩⟩
  refine w_a0 rfl (o_store (v := .agg ⟨[.bool y18.f_Neg, v22]⟩) sz84 rfl rfl rfl rfl (oc rfl (oc (h23.one) oz)) .here u2) ?_
  rintro _ _ _ ⟨rfl, rfl, rfl⟩
  refine w_done <| w_inBlock <| w_region rfl <| wM (.int .i64 i) rfl rfl <| w_d rfl (d_add (c := w64 (i + 30)) rfl rfl rfl) <| wA (.int .i64 (w64 (i + 30))) rfl rfl <| w_done <| w_inLoop <| w_sl 0 (.int .i64 n) rfl <| w_sl 2 (.pointer (some ⟨b_t2, 0, none⟩)) rfl <| w_sl 3 (.pointer (some ⟨b_x, 0, none⟩)) rfl <| w_sl 4 (.int .i64 (w64 (i + 30))) rfl <| hh.l0 (hle.trans (e17.trans e21)) he h23
 ·
  refine w_else rfl (df c9) <| w_exit rfl <| w_seq <| wR rfl <| wA (.int .i64 0) rfl rfl <| w_done <| w_block <| w_loop <| w_sl 0 (.int .i64 n) rfl <| w_sl 2 (.pointer (some ⟨b_t2, 0, none⟩)) rfl <| w_sl 3 (.pointer (some ⟨b_x, 0, none⟩)) rfl ?_
  refine w_sl 5 (.int .i64 0) rfl <| hh.l1 hle he h_x_1
theorem radomeref01_Two.b1_ok {k : Nat} {h : radomeref01_Two.Hs} (hh : radomeref01_Two.OK h) {H0 H : Hp} {L : Items} {r : radomeref01_Num} {jk_ : Nat → Value} {n : Int} {x_0 : Bool} {x_1 : List Int} {i : Int} {v_x_1 : Value} {b_t2 : Nat} {b_x : Nat} (hle : H0.le H) (he : radomeref01_Two.b1 k h n x_0 x_1 i = some r) (h_x_1 : Ro kI64 H v_x_1 x_1) : Wp Tryd.prog 42 26 radomeref01_Two.Kl1 (upd (upd (upd (upd jk_ 0 (.int .i64 n)) 2 (.pointer (some ⟨b_t2, 0, none⟩))) 3 (.pointer (some ⟨b_x, 0, none⟩))) 5 (.int .i64 i)) H (some (b_x, .cells ⟨[.bool x_0, v_x_1]⟩ 84 (0, 0)) :: some (b_t2, .cells ⟨[.bool false, .slice none 0 0]⟩ 84 (0, 0)) :: L) (radomeref01_Two.R H0 L r) := by
 unfold radomeref01_Two.b1 at he
 unfold radomeref01_Two.Kl1
 refine w_seq <| wR rfl <| wM (.int .i64 i) rfl rfl <| wM (.int .i64 n) rfl rfl <| w_d rfl (d_rem rfl rfl (by decide)) <| w_d rfl (d_lss rfl rfl) <| w_done ?_
 rcases its he with ⟨c24, he⟩ | ⟨c24, he⟩
 ·
  refine w_then rfl (dt c24) <| w_skip <| w_seq <| w_block <| w_region rfl <| wL (.agg ⟨[.bool x_0, v_x_1]⟩) ty84 rfl rfl .here rfl rfl <| wL (.agg ⟨[.bool x_0, v_x_1]⟩) ty84 rfl rfl .here rfl rfl ?_
  obtain ⟨y25, hy26, he⟩ := bs he
  refine w_a rfl (o_call co59 (vs := [.agg ⟨[.bool x_0, v_x_1]⟩, .agg ⟨[.bool x_0, v_x_1]⟩]) rfl (radomeref01_Add.calls k (a := ⟨x_0, x_1⟩) (b := ⟨x_0, x_1⟩) hy26 h_x_1 h_x_1)) ?_
  rintro _ H27 _ ⟨rfl, e28, ⟨v29, rfl, h30⟩⟩
  refine w_a0 rfl (o_store (v := .agg ⟨[.bool y25.f_Neg, v29]⟩) sz84 rfl rfl rfl rfl (oc rfl (oc (h30.one) oz)) .here u2) ?_
  rintro _ _ _ ⟨rfl, rfl, rfl⟩
  refine w_done <| w_inBlock <| w_region rfl <| wM (.int .i64 i) rfl rfl <| w_d rfl (d_add (c := w64 (i + 1)) rfl rfl rfl) <| wA (.int .i64 (w64 (i + 1))) rfl rfl <| w_done <| w_inLoop <| w_sl 0 (.int .i64 n) rfl <| w_sl 2 (.pointer (some ⟨b_t2, 0, none⟩)) rfl <| w_sl 3 (.pointer (some ⟨b_x, 0, none⟩)) rfl <| w_sl 5 (.int .i64 (w64 (i + 1))) rfl <| hh.l1 (hle.trans e28) he h30
 ·
  refine w_else rfl (df c24) <| w_exit rfl <| wR rfl <| wL (.agg ⟨[.bool x_0, v_x_1]⟩) ty84 rfl rfl .here rfl rfl <| w_a0 rfl (o_store (v := .agg ⟨[.bool x_0, v_x_1]⟩) sz84 rfl rfl rfl rfl (oc rfl (oc (h_x_1.one) oz)) (.there .here) u2) ?_
  rintro _ _ _ ⟨rfl, rfl, rfl⟩
  refine w_done ?_
  obtain rfl := sj he
  refine w_return fn_42 rs_42 (.box (v := .agg ⟨[.bool x_0, v_x_1]⟩) rfl ty84 rfl rfl (.there .here) rfl .nil) <| ⟨⟨[_, _], rfl⟩, hle, ⟨v_x_1, rfl, h_x_1⟩⟩
theorem radomeref01_Two.ok : ∀ k, radomeref01_Two.OK (radomeref01_Two.hs k)
 | 0 => ⟨(by intros; exact nomatch (show none = some _ from by assumption)), (by intros; exact nomatch (show none = some _ from by assumption))⟩
 | k + 1 => ⟨radomeref01_Two.b0_ok (k := k) (radomeref01_Two.ok k), radomeref01_Two.b1_ok (k := k) (radomeref01_Two.ok k)⟩
theorem radomeref01_Two.calls (k : Nat) {H : Hp} {L : Items} {n : Int} {r : radomeref01_Num} (he : radomeref01_Two.f k n = some r) : Ct Tryd.prog 42 ⟨[.int .i64 n]⟩ H L (cR H L (radomeref01_Two.out r)) := by
 refine ct_out (O := radomeref01_Two.out r) ?_
 have hle : H.le H := .refl _
 have hh := radomeref01_Two.ok k
 unfold radomeref01_Two.f at he
 refine ct_enter (args := [.int .i64 n]) fn_42 rfl nt_42 rfl <| wR rfl <| w_a rfl (o_alloc zr84 rfl) ?_
 rintro _ _ _ ⟨b1, rfl, rfl, rfl⟩
 refine wQ rfl ?_
 obtain ⟨y2, hy3, he⟩ := bs he
 refine w_a rfl (o_call co41 (vs := [.int .i64 1]) rfl (radomeref01_Of.calls k hy3)) ?_
 rintro _ H4 _ ⟨rfl, e5, ⟨v6, rfl, h7⟩⟩
 refine w_a rfl (o_alloc zr84 rfl) ?_
 rintro _ _ _ ⟨b8, rfl, rfl, rfl⟩
 refine w_a0 rfl (o_store (v := .agg ⟨[.bool y2.f_Neg, v6]⟩) sz84 rfl rfl rfl rfl (oc rfl (oc (h7.one) oz)) .here u2) ?_
 rintro _ _ _ ⟨rfl, rfl, rfl⟩
 refine wE <| wR rfl <| wA (.int .i64 0) rfl rfl <| w_done <| w_block <| w_loop <| w_sl 0 (.int .i64 n) rfl <| w_sl 2 (.pointer (some ⟨b1, 0, none⟩)) rfl <| w_sl 3 (.pointer (some ⟨b8, 0, none⟩)) rfl <| w_sl 4 (.int .i64 0) rfl <| hh.l0 (hle.trans e5) he h7
noncomputable def radomeref01_Neg.C : Code := (Tryd.f85.body).getD .skip
def radomeref01_Neg.out (r : radomeref01_Num) (H : Hp) (v : Value) : Prop := ∃ v0, v = .agg ⟨[.bool r.f_Neg, v0]⟩ ∧ Ro kI64 H v0 r.f_D
theorem radomeref01_Neg.out_mono (r : radomeref01_Num) {H H' : Hp} {v : Value} (hle : H.le H') (h : radomeref01_Neg.out r H v) : radomeref01_Neg.out r H' v := by
 obtain ⟨v0, rfl, h0⟩ := h; exact ⟨v0, rfl, h0.mono hle⟩
noncomputable def radomeref01_Neg.f (k : Nat) (a : radomeref01_Num) : Option radomeref01_Num := (radomeref01_num.f k (!a.f_Neg) a.f_D).bind fun y3 => some (y3)
theorem radomeref01_Neg.calls (k : Nat) {H : Hp} {L : Items} {a : radomeref01_Num} {v0_a : Value} {r : radomeref01_Num} (he : radomeref01_Neg.f k a = some r) (h0_a : Ro kI64 H v0_a a.f_D) : Ct Tryd.prog 85 ⟨[.agg ⟨[.bool a.f_Neg, v0_a]⟩]⟩ H L (cR H L (radomeref01_Neg.out r)) := by
 refine ct_out (O := radomeref01_Neg.out r) ?_
 have hle : H.le H := .refl _
 unfold radomeref01_Neg.f at he
 refine ct_enter (args := [.agg ⟨[.bool a.f_Neg, v0_a]⟩]) fn_85 rfl nt_85 rfl <| wR rfl <| w_a rfl (o_box (v := .agg ⟨[.bool a.f_Neg, v0_a]⟩) rfl rfl) ?_
 rintro _ _ _ ⟨b1, rfl, rfl, rfl⟩
 refine w_a rfl (o_alloc zr84 rfl) ?_
 rintro _ _ _ ⟨b2, rfl, rfl, rfl⟩
 refine wQ rfl <| w_d rfl (d_fld (o' := 0) Tryd.underlying84 rfl sz4 rfl rfl rfl) <| wL (.bool a.f_Neg) ty4 rfl rfl (.there .here) rfl rfl <| w_d rfl (d_not (b := a.f_Neg) rfl) <| w_d rfl (d_fld (o' := 1) Tryd.underlying84 rfl sz41 rfl rfl rfl) <| wL v0_a ty41 rfl rfl (.there .here) rfl rfl ?_
 obtain ⟨y3, hy4, he⟩ := bs he
 refine w_a rfl (o_call co76 (vs := [.bool (!a.f_Neg), v0_a]) rfl (radomeref01_num.calls k hy4 h0_a)) ?_
 rintro _ H5 _ ⟨rfl, e6, ⟨v7, rfl, h8⟩⟩
 refine w_a0 rfl (o_store (v := .agg ⟨[.bool y3.f_Neg, v7]⟩) sz84 rfl rfl rfl rfl (oc rfl (oc (h8.one) oz)) .here u2) ?_
 rintro _ _ _ ⟨rfl, rfl, rfl⟩
 refine w_done ?_
 obtain rfl := sj he
 refine w_return fn_85 rs_85 (.box (v := .agg ⟨[.bool y3.f_Neg, v7]⟩) rfl ty84 rfl rfl .here rfl .nil) <| ⟨⟨[_, _], rfl⟩, hle.trans e6, ⟨v7, rfl, h8⟩⟩
noncomputable def radomeref01_Sub.C : Code := (Tryd.f77.body).getD .skip
def radomeref01_Sub.out (r : radomeref01_Num) (H : Hp) (v : Value) : Prop := ∃ v0, v = .agg ⟨[.bool r.f_Neg, v0]⟩ ∧ Ro kI64 H v0 r.f_D
theorem radomeref01_Sub.out_mono (r : radomeref01_Num) {H H' : Hp} {v : Value} (hle : H.le H') (h : radomeref01_Sub.out r H v) : radomeref01_Sub.out r H' v := by
 obtain ⟨v0, rfl, h0⟩ := h; exact ⟨v0, rfl, h0.mono hle⟩
noncomputable def radomeref01_Sub.f (k : Nat) (a : radomeref01_Num) (b : radomeref01_Num) : Option radomeref01_Num := (radomeref01_Neg.f k b).bind fun y4 => (radomeref01_Add.f k a y4).bind fun y12 => some (y12)
theorem radomeref01_Sub.calls (k : Nat) {H : Hp} {L : Items} {a : radomeref01_Num} {b : radomeref01_Num} {v0_a : Value} {v1_b : Value} {r : radomeref01_Num} (he : radomeref01_Sub.f k a b = some r) (h0_a : Ro kI64 H v0_a a.f_D) (h1_b : Ro kI64 H v1_b b.f_D) : Ct Tryd.prog 77 ⟨[.agg ⟨[.bool a.f_Neg, v0_a]⟩, .agg ⟨[.bool b.f_Neg, v1_b]⟩]⟩ H L (cR H L (radomeref01_Sub.out r)) := by
 refine ct_out (O := radomeref01_Sub.out r) ?_
 have hle : H.le H := .refl _
 unfold radomeref01_Sub.f at he
 refine ct_enter (args := [.agg ⟨[.bool a.f_Neg, v0_a]⟩, .agg ⟨[.bool b.f_Neg, v1_b]⟩]) fn_77 rfl nt_77 rfl <| wR rfl <| w_a rfl (o_box (v := .agg ⟨[.bool a.f_Neg, v0_a]⟩) rfl rfl) ?_
 rintro _ _ _ ⟨b1, rfl, rfl, rfl⟩
 refine w_a rfl (o_box (v := .agg ⟨[.bool b.f_Neg, v1_b]⟩) rfl rfl) ?_
 rintro _ _ _ ⟨b2, rfl, rfl, rfl⟩
 refine w_a rfl (o_alloc zr84 rfl) ?_
 rintro _ _ _ ⟨b3, rfl, rfl, rfl⟩
 refine wE ?_
 obtain ⟨y4, hy5, he⟩ := bs he
 refine w_drawn (p := 3) (tl := [3, 4]) [[], [], [(1, some 6)]] [some 5, some 6, some 7] (fctF (.is (.agg ⟨[.bool a.f_Neg, v0_a]⟩) :: .is (.agg ⟨[.bool b.f_Neg, v1_b]⟩) :: .of (radomeref01_Neg.out y4) (radomeref01_Neg.out_mono _) :: [])) (fun m_ => some (b3, .cells ⟨[.bool false, .slice none 0 0]⟩ 84 (0, 0)) :: some (b2, .cells ⟨[.bool b.f_Neg, v1_b]⟩ 84 (0, 0)) :: some (b1, .cells ⟨[.bool a.f_Neg, v0_a]⟩ 84 (0, 0)) :: L) (fun _ => none) mixed (by kernel_rfl) (by kernel_rfl) rfl (fct_mono (by kernel_rfl)) ⟨(fun H' m_ hH hm_ hu_ => dn <| s_d (m_ 0) rfl (d_loado (v := .agg ⟨[.bool a.f_Neg, v0_a]⟩) ty84 rfl (.there (.there .here)) rfl rfl rfl rfl) (by exact rfl) rfl), (fun H' m_ hH hm_ hu_ => dn <| s_d (m_ 1) rfl (d_loado (v := .agg ⟨[.bool b.f_Neg, v1_b]⟩) ty84 rfl (.there .here) rfl rfl rfl rfl) (by exact rfl) rfl), (by rintro H' m_ hH hm_ hu_ _ rfl; exact dn <| s_k (m_ 2) rfl (o_call co85 (vs := [.agg ⟨[.bool b.f_Neg, v1_b]⟩]) rfl (radomeref01_Neg.calls k (a := b) hy5 (h1_b.mono hH))) rfl (by rintro v_ H_ _ ⟨rfl, e_, h_⟩; exact ⟨rfl, e_, h_⟩)), trivial⟩ ?_
 intro H10 e11
 rintro _ _ rfl _ _ rfl _ _ ⟨v8, rfl, h9⟩
 obtain ⟨y12, hy13, he⟩ := bs he
 refine w_a rfl (o_call co59 (vs := [.agg ⟨[.bool a.f_Neg, v0_a]⟩, .agg ⟨[.bool y4.f_Neg, v8]⟩]) rfl (radomeref01_Add.calls k (a := a) (b := y4) hy13 (h0_a.mono e11) h9)) ?_
 rintro _ H14 _ ⟨rfl, e15, ⟨v16, rfl, h17⟩⟩
 refine w_a0 rfl (o_store (v := .agg ⟨[.bool y12.f_Neg, v16]⟩) sz84 rfl rfl rfl rfl (oc rfl (oc (h17.one) oz)) .here u2) ?_
 rintro _ _ _ ⟨rfl, rfl, rfl⟩
 refine w_done ?_
 obtain rfl := sj he
 refine w_return fn_77 rs_77 (.box (v := .agg ⟨[.bool y12.f_Neg, v16]⟩) rfl ty84 rfl rfl .here rfl .nil) <| ⟨⟨[_, _, _], rfl⟩, hle.trans (e11.trans e15), ⟨v16, rfl, h17⟩⟩
end Go.Proofs.YtlokgnjlnefbbaaDoor.GRW

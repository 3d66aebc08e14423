/- printed by gen.py -/
import Derived.Test.YtacbficpehmlnaaDoorGBSx2
namespace Go.Proofs.YtacbficpehmlnaaDoor.GBS
open Go Go.RowKit Go.Proofs.YtacbficpehmlnaaDoorK Go.Proofs.YtacbficpehmlnaaDoor
set_option maxRecDepth 100000
set_option maxHeartbeats 2000000
set_option linter.unusedVariables false
set_option linter.unusedSimpArgs false
noncomputable def radomeref01_Neg.C : Code := (Tryd.f62.body).getD .skip
def radomeref01_Neg.out (r : radomeref01_Num) (H : Hp) (v : Value) : Prop := ∃ v0, v = .agg ⟨[.bool r.f_Neg, v0]⟩ ∧ Ro kI64 H v0 r.f_D
theorem radomeref01_Neg.out_mono (r : radomeref01_Num) {H H' : Hp} {v : Value} (hle : H.le H') (h : radomeref01_Neg.out r H v) : radomeref01_Neg.out r H' v := by
 obtain ⟨v0, rfl, h0⟩ := h; exact ⟨v0, rfl, h0.mono hle⟩
noncomputable def radomeref01_Neg.f (k : Nat) (a : radomeref01_Num) : Option radomeref01_Num := (radomeref01_num.f k (!a.f_Neg) a.f_D).bind fun y3 => some (y3)
theorem radomeref01_Neg.calls (k : Nat) {H : Hp} {L : Items} {a : radomeref01_Num} {v0_a : Value} {r : radomeref01_Num} (he : radomeref01_Neg.f k a = some r) (h0_a : Ro kI64 H v0_a a.f_D) : Ct Tryd.prog 62 ⟨[.agg ⟨[.bool a.f_Neg, v0_a]⟩]⟩ H L (cR H L (radomeref01_Neg.out r)) := by
 refine ct_out (O := radomeref01_Neg.out r) ?_
 have hle : H.le H := .refl _
 unfold radomeref01_Neg.f at he
 refine ct_enter (args := [.agg ⟨[.bool a.f_Neg, v0_a]⟩]) fn_62 rfl nt_62 rfl <| wR rfl <| w_a rfl (o_box (v := .agg ⟨[.bool a.f_Neg, v0_a]⟩) rfl rfl) ?_
 rintro _ _ _ ⟨b1, rfl, rfl, rfl⟩
 refine w_a rfl (o_alloc zr76 rfl) ?_
 rintro _ _ _ ⟨b2, rfl, rfl, rfl⟩
 refine wQ rfl <| w_d rfl (d_fld (o' := 0) Tryd.underlying76 rfl sz4 rfl rfl rfl) <| wL (.bool a.f_Neg) ty4 rfl rfl (.there .here) rfl rfl <| w_d rfl (d_not (b := a.f_Neg) rfl) <| w_d rfl (d_fld (o' := 1) Tryd.underlying76 rfl sz34 rfl rfl rfl) <| wL v0_a ty34 rfl rfl (.there .here) rfl rfl ?_
 obtain ⟨y3, hy4, he⟩ := bs he
 refine w_a rfl (o_call co45 (vs := [.bool (!a.f_Neg), v0_a]) rfl (radomeref01_num.calls k hy4 h0_a)) ?_
 rintro _ H5 _ ⟨rfl, e6, ⟨v7, rfl, h8⟩⟩
 refine w_a0 rfl (o_store (v := .agg ⟨[.bool y3.f_Neg, v7]⟩) sz76 rfl rfl rfl rfl (oc rfl (oc (h8.one) oz)) .here u2) ?_
 rintro _ _ _ ⟨rfl, rfl, rfl⟩
 refine w_done ?_
 obtain rfl := sj he
 refine w_return fn_62 rs_62 (.box (v := .agg ⟨[.bool y3.f_Neg, v7]⟩) rfl ty76 rfl rfl .here rfl .nil) <| ⟨⟨[_, _], rfl⟩, hle.trans e6, ⟨v7, rfl, h8⟩⟩
noncomputable def radomeref01_Sub.C : Code := (Tryd.f50.body).getD .skip
def radomeref01_Sub.out (r : radomeref01_Num) (H : Hp) (v : Value) : Prop := ∃ v0, v = .agg ⟨[.bool r.f_Neg, v0]⟩ ∧ Ro kI64 H v0 r.f_D
noncomputable def radomeref01_Sub.f (k : Nat) (a : radomeref01_Num) (b : radomeref01_Num) : Option radomeref01_Num := (radomeref01_Neg.f k b).bind fun y4 => (radomeref01_Add.f k a y4).bind fun y12 => some (y12)
theorem radomeref01_Sub.calls (k : Nat) {H : Hp} {L : Items} {a : radomeref01_Num} {b : radomeref01_Num} {v0_a : Value} {v1_b : Value} {r : radomeref01_Num} (he : radomeref01_Sub.f k a b = some r) (h0_a : Ro kI64 H v0_a a.f_D) (h1_b : Ro kI64 H v1_b b.f_D) : Ct Tryd.prog 50 ⟨[.agg ⟨[.bool a.f_Neg, v0_a]⟩, .agg ⟨[.bool b.f_Neg, v1_b]⟩]⟩ H L (cR H L (radomeref01_Sub.out r)) := by
 refine ct_out (O := radomeref01_Sub.out r) ?_
 have hle : H.le H := .refl _
 unfold radomeref01_Sub.f at he
 refine ct_enter (args := [.agg ⟨[.bool a.f_Neg, v0_a]⟩, .agg ⟨[.bool b.f_Neg, v1_b]⟩]) fn_50 rfl nt_50 rfl <| wR rfl <| w_a rfl (o_box (v := .agg ⟨[.bool a.f_Neg, v0_a]⟩) rfl rfl) ?_
 rintro _ _ _ ⟨b1, rfl, rfl, rfl⟩
 refine w_a rfl (o_box (v := .agg ⟨[.bool b.f_Neg, v1_b]⟩) rfl rfl) ?_
 rintro _ _ _ ⟨b2, rfl, rfl, rfl⟩
 refine w_a rfl (o_alloc zr76 rfl) ?_
 rintro _ _ _ ⟨b3, rfl, rfl, rfl⟩
 refine wE ?_
 obtain ⟨y4, hy5, he⟩ := bs he
 refine w_drawn (p := 3) (tl := [3, 4]) [[], [], [(1, some 6)]] [some 5, some 6, some 7] (fctF (.is (.agg ⟨[.bool a.f_Neg, v0_a]⟩) :: .is (.agg ⟨[.bool b.f_Neg, v1_b]⟩) :: .of (radomeref01_Neg.out y4) (radomeref01_Neg.out_mono _) :: [])) (fun m_ => some (b3, .cells ⟨[.bool false, .slice none 0 0]⟩ 76 (0, 0)) :: some (b2, .cells ⟨[.bool b.f_Neg, v1_b]⟩ 76 (0, 0)) :: some (b1, .cells ⟨[.bool a.f_Neg, v0_a]⟩ 76 (0, 0)) :: L) (fun _ => none) mixed (by kernel_rfl) (by kernel_rfl) rfl (fct_mono (by kernel_rfl)) ⟨(fun H' m_ hH hm_ hu_ => dn <| s_d (m_ 0) rfl (d_loado (v := .agg ⟨[.bool a.f_Neg, v0_a]⟩) ty76 rfl (.there (.there .here)) rfl rfl rfl rfl) (by exact rfl) rfl), (fun H' m_ hH hm_ hu_ => dn <| s_d (m_ 1) rfl (d_loado (v := .agg ⟨[.bool b.f_Neg, v1_b]⟩) ty76 rfl (.there .here) rfl rfl rfl rfl) (by exact rfl) rfl), (by rintro H' m_ hH hm_ hu_ _ rfl; exact dn <| s_k (m_ 2) rfl (o_call co62 (vs := [.agg ⟨[.bool b.f_Neg, v1_b]⟩]) rfl (radomeref01_Neg.calls k (a := b) hy5 (h1_b.mono hH))) rfl (by rintro v_ H_ _ ⟨rfl, e_, h_⟩; exact ⟨rfl, e_, h_⟩)), trivial⟩ ?_
 intro H10 e11
 rintro _ _ rfl _ _ rfl _ _ ⟨v8, rfl, h9⟩
 obtain ⟨y12, hy13, he⟩ := bs he
 refine w_a rfl (o_call co32 (vs := [.agg ⟨[.bool a.f_Neg, v0_a]⟩, .agg ⟨[.bool y4.f_Neg, v8]⟩]) rfl (radomeref01_Add.calls k (a := a) (b := y4) hy13 (h0_a.mono e11) h9)) ?_
 rintro _ H14 _ ⟨rfl, e15, ⟨v16, rfl, h17⟩⟩
 refine w_a0 rfl (o_store (v := .agg ⟨[.bool y12.f_Neg, v16]⟩) sz76 rfl rfl rfl rfl (oc rfl (oc (h17.one) oz)) .here u2) ?_
 rintro _ _ _ ⟨rfl, rfl, rfl⟩
 refine w_done ?_
 obtain rfl := sj he
 refine w_return fn_50 rs_50 (.box (v := .agg ⟨[.bool y12.f_Neg, v16]⟩) rfl ty76 rfl rfl .here rfl .nil) <| ⟨⟨[_, _, _], rfl⟩, hle.trans (e11.trans e15), ⟨v16, rfl, h17⟩⟩
noncomputable def radomeref01_Sign.C : Code := (Tryd.f49.body).getD .skip
def radomeref01_Sign.out (r : Int) (H : Hp) (v : Value) : Prop := v = .int .i64 r
noncomputable def radomeref01_Sign.f (k : Nat) (a : radomeref01_Num) : Option Int := if (a.f_D.length : Int) = 0 then (some (0)) else (if a.f_Neg = true then (some ((-1))) else (some (1)))
theorem radomeref01_Sign.calls (k : Nat) {H : Hp} {L : Items} {a : radomeref01_Num} {v0_a : Value} {r : Int} (he : radomeref01_Sign.f k a = some r) (h0_a : Ro kI64 H v0_a a.f_D) : Ct Tryd.prog 49 ⟨[.agg ⟨[.bool a.f_Neg, v0_a]⟩]⟩ H L (fun v H' L' => L = L' ∧ H = H' ∧ v = .int .i64 r) := by
 refine ct_outs (O := radomeref01_Sign.out r) (fun _ _ h => h) ?_
 have hle : H.le H := .refl _
 unfold radomeref01_Sign.f at he
 refine ct_enter (args := [.agg ⟨[.bool a.f_Neg, v0_a]⟩]) fn_49 rfl nt_49 rfl <| wR rfl <| w_a rfl (o_box (v := .agg ⟨[.bool a.f_Neg, v0_a]⟩) rfl rfl) ?_
 rintro _ _ _ ⟨b1, rfl, rfl, rfl⟩
 refine wA (.int .i64 0) rfl rfl <| wE <| wR rfl <| w_d rfl (d_fld (o' := 1) Tryd.underlying76 rfl sz34 rfl rfl rfl) <| wL v0_a ty34 rfl rfl .here rfl rfl <| w_d rfl (d_len Tryd.underlying34 rfl h0_a.src) <| w_d rfl (d_eql rfl rfl) <| w_done ?_
 rcases its he with ⟨c2, he⟩ | ⟨c2, he⟩
 ·
  refine w_then rfl (dt c2) <| wR rfl <| wA (.int .i64 0) rfl rfl <| w_done ?_
  obtain rfl := sj he
  refine w_return fn_49 rs_49 (.tmp (v := .int .i64 0) rfl .nil) <| ⟨⟨[_], rfl⟩, hle, rfl⟩
 ·
  refine w_else rfl (df c2) <| w_skip <| w_seq <| wR rfl <| w_d rfl (d_fld (o' := 0) Tryd.underlying76 rfl sz4 rfl rfl rfl) <| wL (.bool a.f_Neg) ty4 rfl rfl .here rfl rfl <| w_done ?_
  rcases its he with ⟨c3, he⟩ | ⟨c3, he⟩
  ·
   refine w_then rfl c3 <| wR rfl <| wA (.int .i64 (-1)) rfl rfl <| w_done ?_
   obtain rfl := sj he
   refine w_return fn_49 rs_49 (.tmp (v := .int .i64 (-1)) rfl .nil) <| ⟨⟨[_], rfl⟩, hle, rfl⟩
  ·
   refine w_else rfl (Bool.eq_false_iff.2 c3) <| w_skip <| wR rfl <| wA (.int .i64 1) rfl rfl <| w_done ?_
   obtain rfl := sj he
   refine w_return fn_49 rs_49 (.tmp (v := .int .i64 1) rfl .nil) <| ⟨⟨[_], rfl⟩, hle, rfl⟩
noncomputable def radomeref01_Cmp.C : Code := (Tryd.f34.body).getD .skip
def radomeref01_Cmp.out (r : Int) (H : Hp) (v : Value) : Prop := v = .int .i64 r
noncomputable def radomeref01_Cmp.f (k : Nat) (a : radomeref01_Num) (b : radomeref01_Num) : Option Int := (radomeref01_Sub.f k a b).bind fun y3 => (radomeref01_Sign.f k y3).bind fun y9 => some (y9)
theorem radomeref01_Cmp.calls (k : Nat) {H : Hp} {L : Items} {a : radomeref01_Num} {b : radomeref01_Num} {v0_a : Value} {v1_b : Value} {r : Int} (he : radomeref01_Cmp.f k a b = some r) (h0_a : Ro kI64 H v0_a a.f_D) (h1_b : Ro kI64 H v1_b b.f_D) : Ct Tryd.prog 34 ⟨[.agg ⟨[.bool a.f_Neg, v0_a]⟩, .agg ⟨[.bool b.f_Neg, v1_b]⟩]⟩ H L (fun v H' L' => L = L' ∧ H = H' ∧ v = .int .i64 r) := by
 refine ct_outs (O := radomeref01_Cmp.out r) (fun _ _ h => h) ?_
 have hle : H.le H := .refl _
 unfold radomeref01_Cmp.f at he
 refine ct_enter (args := [.agg ⟨[.bool a.f_Neg, v0_a]⟩, .agg ⟨[.bool b.f_Neg, v1_b]⟩]) fn_34 rfl nt_34 rfl <| wR rfl <| w_a rfl (o_box (v := .agg ⟨[.bool a.f_Neg, v0_a]⟩) rfl rfl) ?_
 rintro _ _ _ ⟨b1, rfl, rfl, rfl⟩
 refine w_a rfl (o_box (v := .agg ⟨[.bool b.f_Neg, v1_b]⟩) rfl rfl) ?_
 rintro _ _ _ ⟨b2, rfl, rfl, rfl⟩
 refine wA (.int .i64 0) rfl rfl <| wQ rfl <| wL (.agg ⟨[.bool a.f_Neg, v0_a]⟩) ty76 rfl rfl (.there .here) rfl rfl <| wL (.agg ⟨[.bool b.f_Neg, v1_b]⟩) ty76 rfl rfl .here rfl rfl ?_
 obtain ⟨y3, hy4, he⟩ := bs he
 refine w_a rfl (o_call co50 (vs := [.agg ⟨[.bool a.f_Neg, v0_a]⟩, .agg ⟨[.bool b.f_Neg, v1_b]⟩]) rfl (radomeref01_Sub.calls k (a := a) (b := b) hy4 h0_a h1_b)) ?_
 rintro _ H5 _ ⟨rfl, e6, ⟨v7, rfl, h8⟩⟩
 obtain ⟨y9, hy10, he⟩ := bs he
 refine w_d rfl (call_d (o_call co49 (vs := [.agg ⟨[.bool y3.f_Neg, v7]⟩]) rfl (radomeref01_Sign.calls k (a := y3) hy10 h8))) <| wA (.int .i64 y9) rfl rfl <| w_done ?_
 obtain rfl := sj he
 refine w_return fn_34 rs_34 (.tmp (v := .int .i64 y9) rfl .nil) <| ⟨⟨[_, _], rfl⟩, hle.trans e6, rfl⟩
noncomputable def radomeref22_Shows.C : Code := (Tryd.f19.body).getD .skip
def radomeref22_Shows.out (r : Bool) (H : Hp) (v : Value) : Prop := v = .bool r
abbrev radomeref22_Shows.R (H0 : Hp) (L : Items) (r : Bool) := fR H0 L (radomeref22_Shows.out r)
structure radomeref22_Shows.Hs where
 l0 : (List Int) → (List Int) → Int → (List (List Int)) → Int → Bool → Bool → (List Int) → Int → Option Bool
 l1 : (List Int) → (List Int) → Int → (List (List Int)) → Int → Bool → Bool → (List Int) → Int → Option Bool
 l2 : (List Int) → (List Int) → Int → (List (List Int)) → Int → Bool → Bool → (List Int) → Int → Int → Option Bool
noncomputable def radomeref22_Shows.b0 (k : Nat) (h : radomeref22_Shows.Hs)  (u : List Int) (v_ : List Int) (total : Int) (c_0 : List (List Int)) (c_1 : Int) (t8 : Bool) (sum_0 : Bool) (sum_1 : List Int) (i : Int) : Option Bool := if i < (u.length : Int) then (if (0 : Int) ≤ i ∧ i < (u.length : Int) then (if (!(decide (c_1 < (rd u i)))) = true → (0 : Int) ≤ i ∧ i < (u.length : Int) then (if ((decide (c_1 < (rd u i))) || (decide ((rd u i) < (-36028797018963968)))) = true then (some (false)) else (if (0 : Int) ≤ i ∧ i < (u.length : Int) then ((radomeref01_Of.f k (rd u i)).bind fun y25 => (radomeref01_Add.f k (⟨sum_0, sum_1⟩ : radomeref01_Num) y25).bind fun y33 => h.l0 u v_ total c_0 c_1 t8 y33.f_Neg y33.f_D (w64 (i + 1))) else none)) else none) else none) else (h.l1 u v_ total c_0 c_1 t8 sum_0 sum_1 0)
noncomputable def radomeref22_Shows.b1 (k : Nat) (h : radomeref22_Shows.Hs)  (u : List Int) (v_ : List Int) (total : Int) (c_0 : List (List Int)) (c_1 : Int) (t8 : Bool) (sum_0 : Bool) (sum_1 : List Int) (k_ : Int) : Option Bool := if k_ < (v_.length : Int) then (if (0 : Int) ≤ k_ ∧ k_ < (v_.length : Int) then (if (!(decide (0 < (rd v_ k_)))) = true → (0 : Int) ≤ k_ ∧ k_ < (v_.length : Int) then (if ((decide (0 < (rd v_ k_))) || (decide ((rd v_ k_) < (-36028797018963968)))) = true then (some (false)) else (if (0 : Int) ≤ k_ ∧ k_ < (v_.length : Int) then ((radomeref01_Of.f k (rd v_ k_)).bind fun y49 => (radomeref01_Add.f k (⟨sum_0, sum_1⟩ : radomeref01_Num) y49).bind fun y57 => h.l2 u v_ total c_0 c_1 t8 y57.f_Neg y57.f_D k_ 0) else none)) else none) else none) else ((radomeref01_Of.f k total).bind fun y63 => (radomeref01_Cmp.f k (⟨sum_0, sum_1⟩ : radomeref01_Num) y63).bind fun y71 => some (decide (y71 = 0)))
noncomputable def radomeref22_Shows.b2 (k : Nat) (h : radomeref22_Shows.Hs)  (u : List Int) (v_ : List Int) (total : Int) (c_0 : List (List Int)) (c_1 : Int) (t8 : Bool) (sum_0 : Bool) (sum_1 : List Int) (k_ : Int) (i : Int) : Option Bool := if i < (u.length : Int) then (if (0 : Int) ≤ i ∧ i < (c_0.length : Int) then (if (0 : Int) ≤ k_ ∧ k_ < ((rd c_0 i).length : Int) then (if (decide (0 ≤ (rd (rd c_0 i) k_))) = true → (0 : Int) ≤ i ∧ i < (u.length : Int) then ((gd (decide (0 ≤ (rd (rd c_0 i) k_))) (radomeref01_Of.f k (rd u i)) ((⟨false, []⟩ : radomeref01_Num))).bind fun y88 => if (decide (0 ≤ (rd (rd c_0 i) k_))) = true → (0 : Int) ≤ k_ ∧ k_ < (v_.length : Int) then ((gd (decide (0 ≤ (rd (rd c_0 i) k_))) (radomeref01_Of.f k (rd v_ k_)) ((⟨false, []⟩ : radomeref01_Num))).bind fun y100 => (gd (decide (0 ≤ (rd (rd c_0 i) k_))) (radomeref01_Add.f k y88 y100) ((⟨false, []⟩ : radomeref01_Num))).bind fun y107 => if (decide (0 ≤ (rd (rd c_0 i) k_))) = true → (0 : Int) ≤ i ∧ i < (c_0.length : Int) then (if (decide (0 ≤ (rd (rd c_0 i) k_))) = true → (0 : Int) ≤ k_ ∧ k_ < ((rd c_0 i).length : Int) then ((gd (decide (0 ≤ (rd (rd c_0 i) k_))) (radomeref01_Of.f k (rd (rd c_0 i) k_)) ((⟨false, []⟩ : radomeref01_Num))).bind fun y129 => (gd (decide (0 ≤ (rd (rd c_0 i) k_))) (radomeref01_Cmp.f k y107 y129) (0)).bind fun y137 => if ((decide (0 ≤ (rd (rd c_0 i) k_))) && (decide (0 < y137))) = true then (some (false)) else (h.l2 u v_ total c_0 c_1 t8 sum_0 sum_1 k_ (w64 (i + 1)))) else none) else none) else none) else none) else none) else none) else (h.l1 u v_ total c_0 c_1 t8 sum_0 sum_1 (w64 (k_ + 1)))
noncomputable def radomeref22_Shows.hs : Nat → radomeref22_Shows.Hs
 | 0 => ⟨fun _ _ _ _ _ _ _ _ _ => none, fun _ _ _ _ _ _ _ _ _ => none, fun _ _ _ _ _ _ _ _ _ _ => none⟩
 | k + 1 => ⟨fun x0 x1 x2 x3 x4 x5 x6 x7 x8 => radomeref22_Shows.b0 k (radomeref22_Shows.hs k) x0 x1 x2 x3 x4 x5 x6 x7 x8, fun x0 x1 x2 x3 x4 x5 x6 x7 x8 => radomeref22_Shows.b1 k (radomeref22_Shows.hs k) x0 x1 x2 x3 x4 x5 x6 x7 x8, fun x0 x1 x2 x3 x4 x5 x6 x7 x8 x9 => radomeref22_Shows.b2 k (radomeref22_Shows.hs k) x0 x1 x2 x3 x4 x5 x6 x7 x8 x9⟩
noncomputable def radomeref22_Shows.f (k : Nat) (c_ : radomeref20_Costs) (u : List Int) (v_ : List Int) (total : Int) : Option Bool := (fun h : radomeref22_Shows.Hs => (gd (!(!decide ((u.length : Int) = (c_.f_Rows.length : Int)))) (radomeref22_plots.f k c_) (0)).bind fun y6 => if ((!decide ((u.length : Int) = (c_.f_Rows.length : Int))) || (!decide ((v_.length : Int) = y6))) = true then (some (false)) else (h.l0 u v_ total c_.f_Rows c_.f_Miss false false [] 0)) (radomeref22_Shows.hs k)
noncomputable def radomeref22_Shows.Kl0 : List Item := .code (lopB (blkB (seqR (seqL (seqR (seqR (seqR radomeref22_Shows.C))))))) :: .inLoop (lopB (blkB (seqR (seqL (seqR (seqR (seqR radomeref22_Shows.C))))))) :: .inBlock 0 :: .code (seqR (seqR (seqR (seqR radomeref22_Shows.C)))) :: []
noncomputable def radomeref22_Shows.Kl1 : List Item := .code (lopB (blkB (seqR (seqL (seqR (seqR (seqR (seqR radomeref22_Shows.C)))))))) :: .inLoop (lopB (blkB (seqR (seqL (seqR (seqR (seqR (seqR radomeref22_Shows.C)))))))) :: .inBlock 2 :: .code (seqR (seqR (seqR (seqR (seqR radomeref22_Shows.C))))) :: []
noncomputable def radomeref22_Shows.Kl2 : List Item := .code (lopB (blkB (seqR (seqR (seqR (blkB (seqL (seqR (lopB (blkB (seqR (seqL (seqR (seqR (seqR (seqR radomeref22_Shows.C)))))))))))))))) :: .inLoop (lopB (blkB (seqR (seqR (seqR (blkB (seqL (seqR (lopB (blkB (seqR (seqL (seqR (seqR (seqR (seqR radomeref22_Shows.C)))))))))))))))) :: .inBlock 4 :: .inBlock 3 :: .code (seqR (seqR (lopB (blkB (seqR (seqL (seqR (seqR (seqR (seqR radomeref22_Shows.C)))))))))) :: .inLoop (lopB (blkB (seqR (seqL (seqR (seqR (seqR (seqR radomeref22_Shows.C)))))))) :: .inBlock 2 :: .code (seqR (seqR (seqR (seqR (seqR radomeref22_Shows.C))))) :: []
structure radomeref22_Shows.OK (h : radomeref22_Shows.Hs) : Prop where
 l0 : ∀ {H0 H : Hp} {L : Items} {r : Bool} {jk_ : Nat → Value} {u : List Int} {v_ : List Int} {total : Int} {c_0 : List (List Int)} {c_1 : Int} {t8 : Bool} {sum_0 : Bool} {sum_1 : List Int} {i : Int} {v_u : Value} {v_v_ : Value} {v_c_0 : Value} {v_sum_1 : Value} {b_c_ : Nat} {b_sum : Nat} (_ : H0.le H) (_he : h.l0 u v_ total c_0 c_1 t8 sum_0 sum_1 i = some r) (_h_u : Src kI64 H L v_u u) (_h_v_ : Src kI64 H L v_v_ v_) (_h_c_0 : Ro (Kd.slice kI64) H v_c_0 c_0) (_h_sum_1 : Ro kI64 H v_sum_1 sum_1), Wp Tryd.prog 19 123 radomeref22_Shows.Kl0 (upd (upd (upd (upd (upd (upd (upd jk_ 1 (v_u)) 2 (v_v_)) 3 (.int .i64 total)) 4 (.pointer (some ⟨b_c_, 0, none⟩))) 8 (.bool t8)) 9 (.pointer (some ⟨b_sum, 0, none⟩))) 10 (.int .i64 i)) H (some (b_sum, .cells ⟨[.bool sum_0, v_sum_1]⟩ 76 (0, 0)) :: some (b_c_, .cells ⟨[v_c_0, .int .i64 c_1]⟩ 24 (0, 0)) :: L) (radomeref22_Shows.R H0 L r)
 l1 : ∀ {H0 H : Hp} {L : Items} {r : Bool} {jk_ : Nat → Value} {u : List Int} {v_ : List Int} {total : Int} {c_0 : List (List Int)} {c_1 : Int} {t8 : Bool} {sum_0 : Bool} {sum_1 : List Int} {k_ : Int} {v_u : Value} {v_v_ : Value} {v_c_0 : Value} {v_sum_1 : Value} {b_c_ : Nat} {b_sum : Nat} (_ : H0.le H) (_he : h.l1 u v_ total c_0 c_1 t8 sum_0 sum_1 k_ = some r) (_h_u : Src kI64 H L v_u u) (_h_v_ : Src kI64 H L v_v_ v_) (_h_c_0 : Ro (Kd.slice kI64) H v_c_0 c_0) (_h_sum_1 : Ro kI64 H v_sum_1 sum_1), Wp Tryd.prog 19 123 radomeref22_Shows.Kl1 (upd (upd (upd (upd (upd (upd (upd jk_ 1 (v_u)) 2 (v_v_)) 3 (.int .i64 total)) 4 (.pointer (some ⟨b_c_, 0, none⟩))) 8 (.bool t8)) 9 (.pointer (some ⟨b_sum, 0, none⟩))) 11 (.int .i64 k_)) H (some (b_sum, .cells ⟨[.bool sum_0, v_sum_1]⟩ 76 (0, 0)) :: some (b_c_, .cells ⟨[v_c_0, .int .i64 c_1]⟩ 24 (0, 0)) :: L) (radomeref22_Shows.R H0 L r)
 l2 : ∀ {H0 H : Hp} {L : Items} {r : Bool} {jk_ : Nat → Value} {u : List Int} {v_ : List Int} {total : Int} {c_0 : List (List Int)} {c_1 : Int} {t8 : Bool} {sum_0 : Bool} {sum_1 : List Int} {k_ : Int} {i : Int} {v_u : Value} {v_v_ : Value} {v_c_0 : Value} {v_sum_1 : Value} {b_c_ : Nat} {b_sum : Nat} (_ : H0.le H) (_he : h.l2 u v_ total c_0 c_1 t8 sum_0 sum_1 k_ i = some r) (_h_u : Src kI64 H L v_u u) (_h_v_ : Src kI64 H L v_v_ v_) (_h_c_0 : Ro (Kd.slice kI64) H v_c_0 c_0) (_h_sum_1 : Ro kI64 H v_sum_1 sum_1), Wp Tryd.prog 19 123 radomeref22_Shows.Kl2 (upd (upd (upd (upd (upd (upd (upd (upd jk_ 1 (v_u)) 2 (v_v_)) 3 (.int .i64 total)) 4 (.pointer (some ⟨b_c_, 0, none⟩))) 8 (.bool t8)) 9 (.pointer (some ⟨b_sum, 0, none⟩))) 11 (.int .i64 k_)) 12 (.int .i64 i)) H (some (b_sum, .cells ⟨[.bool sum_0, v_sum_1]⟩ 76 (0, 0)) :: some (b_c_, .cells ⟨[v_c_0, .int .i64 c_1]⟩ 24 (0, 0)) :: L) (radomeref22_Shows.R H0 L r)
theorem radomeref22_Shows.b0_ok {k : Nat} {h : radomeref22_Shows.Hs} (hh : radomeref22_Shows.OK h) {H0 H : Hp} {L : Items} {r : Bool} {jk_ : Nat → Value} {u : List Int} {v_ : List Int} {total : Int} {c_0 : List (List Int)} {c_1 : Int} {t8 : Bool} {sum_0 : Bool} {sum_1 : List Int} {i : Int} {v_u : Value} {v_v_ : Value} {v_c_0 : Value} {v_sum_1 : Value} {b_c_ : Nat} {b_sum : Nat} (hle : H0.le H) (he : radomeref22_Shows.b0 k h u v_ total c_0 c_1 t8 sum_0 sum_1 i = some r) (h_u : Src kI64 H L v_u u) (h_v_ : Src kI64 H L v_v_ v_) (h_c_0 : Ro (Kd.slice kI64) H v_c_0 c_0) (h_sum_1 : Ro kI64 H v_sum_1 sum_1) : Wp Tryd.prog 19 123 radomeref22_Shows.Kl0 (upd (upd (upd (upd (upd (upd (upd jk_ 1 (v_u)) 2 (v_v_)) 3 (.int .i64 total)) 4 (.pointer (some ⟨b_c_, 0, none⟩))) 8 (.bool t8)) 9 (.pointer (some ⟨b_sum, 0, none⟩))) 10 (.int .i64 i)) H (some (b_sum, .cells ⟨[.bool sum_0, v_sum_1]⟩ 76 (0, 0)) :: some (b_c_, .cells ⟨[v_c_0, .int .i64 c_1]⟩ 24 (0, 0)) :: L) (radomeref22_Shows.R H0 L r) := by
 unfold radomeref22_Shows.b0 at he
 unfold radomeref22_Shows.Kl0
 refine w_seq <| wR rfl <| wM (.int .i64 i) rfl rfl <| wM v_u rfl rfl <| w_d rfl (d_len Tryd.underlying32 rfl h_u.th.th) <| w_d rfl (d_lss rfl rfl) <| w_done ?_
 rcases its he with ⟨c13, he⟩ | ⟨c13, he⟩
 ·
  refine w_then rfl (dt c13) <| w_skip <| w_seq <| w_block <| w_seq <| w_seq ?_
  obtain ⟨c14, he⟩ := rq he
  refine w_drawn (p := 10) (tl := [10, 11, 12, 13]) [[], [], [(0, some 33), (1, some 34)], [(2, some 35)], [], [(4, some 37)], [(3, some 36), (5, some 38)], [(6, some 39)], [(7, some 40)], [(7, some 40)]] [some 33, some 34, some 35, some 36, some 37, some 38, some 39, some 40, some 41, some 42] (fctF (.is (v_u) :: .is (.int .i64 i) :: .is (.pointer (some (pel v_u i 1))) :: .is (.int .i64 (rd u i)) :: .is (.pointer (some ⟨b_c_, 1, none⟩)) :: .is (.int .i64 c_1) :: .is (.bool (decide (c_1 < (rd u i)))) :: .is (.bool (decide (c_1 < (rd u i)))) :: .is (cond (!(decide (c_1 < (rd u i)))) v_u undef) :: .is (cond (!(decide (c_1 < (rd u i)))) (.int .i64 i) undef) :: [])) (fun m_ => some (b_sum, .cells ⟨[.bool sum_0, v_sum_1]⟩ 76 (0, 0)) :: some (b_c_, .cells ⟨[v_c_0, .int .i64 c_1]⟩ 24 (0, 0)) :: L) (fun _ => none) mixed (by kernel_rfl) (by kernel_rfl) rfl (fct_mono (by kernel_rfl)) ⟨(fun H' m_ hH hm_ hu_ => dn <| s_d (m_ 0) rfl (d_move (v := v_u) rfl) (by exact rfl) rfl), (fun H' m_ hH hm_ hu_ => dn <| s_d (m_ 1) rfl (d_move (v := .int .i64 i) rfl) (by exact rfl) rfl), (by rintro H' m_ hH hm_ hu_ _ rfl _ rfl; exact dn <| s_d (m_ 2) rfl (d_index (sz := 1) Tryd.underlying32 sz2 rfl (h_u.mono hH).th.th rfl c14) (by exact rfl) rfl), (by rintro H' m_ hH hm_ hu_ _ rfl; exact dn <| s_d (m_ 3) rfl (d_ldint ty2 rfl (h_u.mono hH).th.th c14) (by exact rfl) rfl), (fun H' m_ hH hm_ hu_ => dn <| s_d (m_ 4) rfl (d_fld (o' := 1) Tryd.underlying24 rfl sz2 rfl rfl rfl) (by exact rfl) rfl), (by rintro H' m_ hH hm_ hu_ _ rfl; exact dn <| s_d (m_ 5) rfl (d_loado (v := .int .i64 c_1) ty2 rfl (.there .here) rfl rfl rfl rfl) (by exact rfl) rfl), (by rintro H' m_ hH hm_ hu_ _ rfl _ rfl; exact dn <| s_d (m_ 6) rfl (d_gtr rfl rfl) (by exact rfl) rfl), (by rintro H' m_ hH hm_ hu_ _ rfl; exact dn <| s_d (m_ 7) rfl (d_move (v := .bool (decide (c_1 < (rd u i)))) rfl) (by exact rfl) rfl), (by rintro H' m_ hH hm_ hu_ _ rfl; exact dn <| s_g (g := !(decide (c_1 < (rd u i)))) (m_ 8) rfl rfl rfl wn_f (fun g15 => d_move (v := v_u) rfl) rfl (by exact fun g_ => cvt g_) (by exact fun g_ => cnt g_)), (by rintro H' m_ hH hm_ hu_ _ rfl; exact dn <| s_g (g := !(decide (c_1 < (rd u i)))) (m_ 9) rfl rfl rfl wn_f (fun g16 => d_move (v := .int .i64 i) rfl) rfl (by exact fun g_ => cvt g_) (by exact fun g_ => cnt g_)), trivial⟩ ?_
  intro H17 e18
  rintro _ _ rfl _ _ rfl _ _ rfl _ _ rfl _ _ rfl _ _ rfl _ _ rfl _ _ rfl _ _ rfl _ _ rfl
  obtain ⟨c20, he⟩ := rq he
  refine w_g (g := !(decide (c_1 < (rd u i)))) rfl rfl rfl wn_f (fun g19 => d_index (sz := 1) Tryd.underlying32 sz2 (cvt g19) (h_u.mono e18).th.th (cvt g19) (c20 g19)) <| w_g (g := !(decide (c_1 < (rd u i)))) rfl rfl rfl wn_f (fun g21 => d_ldint ty2 (cvt g21) (h_u.mono e18).th.th (c20 g21)) <| w_g (g := !(decide (c_1 < (rd u i)))) rfl rfl rfl wn_f (fun g22 => d_lss (cvt g22) rfl) <| w_d rfl (d_or' (b := (decide (c_1 < (rd u i)))) (p := (decide ((rd u i) < (-36028797018963968)))) rfl rfl rfl) <| w_done ?_
  rcases its he with ⟨c23, he⟩ | ⟨c23, he⟩
  ·
   refine w_then rfl c23 <| wR rfl <| wA (.bool false) rfl rfl <| w_done ?_
   obtain rfl := sj he
   refine w_return fn_19 rs_19 (.tmp (v := .bool false) rfl .nil) <| ⟨⟨[_, _], rfl⟩, hle.trans e18, rfl⟩
  ·
   refine w_else rfl (Bool.eq_false_iff.2 c23) <| w_skip ?_
   obtain ⟨c24, he⟩ := rq he
   obtain ⟨y25, hy26, he⟩ := bs he
   refine w_drawn (p := 6) (tl := [6, 7]) [[], [], [], [(1, some 48), (2, some 49)], [(3, some 50)], [(4, some 51)]] [some 47, some 48, some 49, some 50, some 51, some 52] (fctF (.is (.agg ⟨[.bool sum_0, v_sum_1]⟩) :: .is (v_u) :: .is (.int .i64 i) :: .is (.pointer (some (pel v_u i 1))) :: .is (.int .i64 (rd u i)) :: .of (radomeref01_Of.out y25) (radomeref01_Of.out_mono _) :: [])) (fun m_ => some (b_sum, .cells ⟨[.bool sum_0, v_sum_1]⟩ 76 (0, 0)) :: some (b_c_, .cells ⟨[v_c_0, .int .i64 c_1]⟩ 24 (0, 0)) :: L) (fun _ => none) mixed (by kernel_rfl) (by kernel_rfl) rfl (fct_mono (by kernel_rfl)) ⟨(fun H' m_ hH hm_ hu_ => dn <| s_d (m_ 0) rfl (d_loado (v := .agg ⟨[.bool sum_0, v_sum_1]⟩) ty76 rfl .here rfl rfl rfl rfl) (by exact rfl) rfl), (fun H' m_ hH hm_ hu_ => dn <| s_d (m_ 1) rfl (d_move (v := v_u) rfl) (by exact rfl) rfl), (fun H' m_ hH hm_ hu_ => dn <| s_d (m_ 2) rfl (d_move (v := .int .i64 i) rfl) (by exact rfl) rfl), (by rintro H' m_ hH hm_ hu_ _ rfl _ rfl; exact dn <| s_d (m_ 3) rfl (d_index (sz := 1) Tryd.underlying32 sz2 rfl (h_u.mono (e18.trans hH)).th.th rfl c24) (by exact rfl) rfl), (by rintro H' m_ hH hm_ hu_ _ rfl; exact dn <| s_d (m_ 4) rfl (d_ldint ty2 rfl (h_u.mono (e18.trans hH)).th.th c24) (by exact rfl) rfl), (by rintro H' m_ hH hm_ hu_ _ rfl; exact dn <| s_k (m_ 5) rfl (o_call co33 (vs := [.int .i64 (rd u i)]) rfl (radomeref01_Of.calls k hy26)) rfl (by rintro v_ H_ _ ⟨rfl, e_, h_⟩; exact ⟨rfl, e_, h_⟩)), trivial⟩ ?_
   intro H31 e32
   rintro _ _ rfl _ _ rfl _ _ rfl _ _ rfl _ _ rfl _ _ ⟨v29, rfl, h30⟩
   obtain ⟨y33, hy34, he⟩ := bs he
   refine w_a rfl (o_call co32 (vs := [.agg ⟨[.bool sum_0, v_sum_1]⟩, .agg ⟨[.bool y25.f_Neg, v29]⟩]) rfl (radomeref01_Add.calls k (a := ⟨sum_0, sum_1⟩) (b := y25) hy34 (h_sum_1.mono (e18.trans e32)) h30)) ?_
   rintro _ H35 _ ⟨rfl, e36, ⟨v37, rfl, h38⟩⟩
   refine w_a0 rfl (o_store (v := .agg ⟨[.bool y33.f_Neg, v37]⟩) sz76 rfl rfl rfl rfl (oc rfl (oc (h38.one) oz)) .here u2) ?_
   rintro _ _ _ ⟨rfl, rfl, rfl⟩
   refine w_done <| w_inBlock <| w_region rfl <| wM (.int .i64 i) rfl rfl <| w_d rfl (d_add (c := w64 (i + 1)) rfl rfl rfl) <| wA (.int .i64 (w64 (i + 1))) rfl rfl <| w_done <| w_inLoop <| w_sl 1 (v_u) rfl <| w_sl 2 (v_v_) rfl <| w_sl 3 (.int .i64 total) rfl <| w_sl 4 (.pointer (some ⟨b_c_, 0, none⟩)) rfl ?_
   refine w_sl 8 (.bool t8) rfl <| w_sl 9 (.pointer (some ⟨b_sum, 0, none⟩)) rfl <| w_sl 10 (.int .i64 (w64 (i + 1))) rfl <| hh.l0 (hle.trans ((e18.trans e32).trans e36)) he (h_u.mono ((e18.trans e32).trans e36)) (h_v_.mono ((e18.trans e32).trans e36)) (h_c_0.mono ((e18.trans e32).trans e36)) h38
 ·
  refine w_else rfl (df c13) <| w_exit rfl <| w_seq <| wR rfl <| wA (.int .i64 0) rfl rfl <| w_done <| w_block <| w_loop <| w_sl 1 (v_u) rfl <| w_sl 2 (v_v_) rfl <| w_sl 3 (.int .i64 total) rfl ?_
  refine w_sl 4 (.pointer (some ⟨b_c_, 0, none⟩)) rfl <| w_sl 8 (.bool t8) rfl <| w_sl 9 (.pointer (some ⟨b_sum, 0, none⟩)) rfl <| w_sl 11 (.int .i64 0) rfl <| hh.l1 hle he h_u h_v_ h_c_0 h_sum_1
theorem radomeref22_Shows.b1_ok {k : Nat} {h : radomeref22_Shows.Hs} (hh : radomeref22_Shows.OK h) {H0 H : Hp} {L : Items} {r : Bool} {jk_ : Nat → Value} {u : List Int} {v_ : List Int} {total : Int} {c_0 : List (List Int)} {c_1 : Int} {t8 : Bool} {sum_0 : Bool} {sum_1 : List Int} {k_ : Int} {v_u : Value} {v_v_ : Value} {v_c_0 : Value} {v_sum_1 : Value} {b_c_ : Nat} {b_sum : Nat} (hle : H0.le H) (he : radomeref22_Shows.b1 k h u v_ total c_0 c_1 t8 sum_0 sum_1 k_ = some r) (h_u : Src kI64 H L v_u u) (h_v_ : Src kI64 H L v_v_ v_) (h_c_0 : Ro (Kd.slice kI64) H v_c_0 c_0) (h_sum_1 : Ro kI64 H v_sum_1 sum_1) : Wp Tryd.prog 19 123 radomeref22_Shows.Kl1 (upd (upd (upd (upd (upd (upd (upd jk_ 1 (v_u)) 2 (v_v_)) 3 (.int .i64 total)) 4 (.pointer (some ⟨b_c_, 0, none⟩))) 8 (.bool t8)) 9 (.pointer (some ⟨b_sum, 0, none⟩))) 11 (.int .i64 k_)) H (some (b_sum, .cells ⟨[.bool sum_0, v_sum_1]⟩ 76 (0, 0)) :: some (b_c_, .cells ⟨[v_c_0, .int .i64 c_1]⟩ 24 (0, 0)) :: L) (radomeref22_Shows.R H0 L r) := by
 unfold radomeref22_Shows.b1 at he
 unfold radomeref22_Shows.Kl1
 refine w_seq <| wR rfl <| wM (.int .i64 k_) rfl rfl <| wM v_v_ rfl rfl <| w_d rfl (d_len Tryd.underlying32 rfl h_v_.th.th) <| w_d rfl (d_lss rfl rfl) <| w_done ?_
 rcases its he with ⟨c39, he⟩ | ⟨c39, he⟩
 ·
  refine w_then rfl (dt c39) <| w_skip <| w_seq <| w_block <| w_seq <| wR rfl <| wM v_v_ rfl rfl <| wM (.int .i64 k_) rfl rfl ?_
  obtain ⟨c40, he⟩ := rq he
  refine w_d rfl (d_index (sz := 1) Tryd.underlying32 sz2 rfl h_v_.th.th rfl c40) <| w_d rfl (d_ldint ty2 rfl h_v_.th.th c40) <| w_d rfl (d_gtr rfl rfl) <| wM (.bool (decide (0 < (rd v_ k_)))) rfl rfl <| w_g (g := !(decide (0 < (rd v_ k_)))) rfl rfl rfl wn_f (fun g41 => d_move (v := v_v_) rfl) <| w_g (g := !(decide (0 < (rd v_ k_)))) rfl rfl rfl wn_f (fun g42 => d_move (v := .int .i64 k_) rfl) ?_
  obtain ⟨c44, he⟩ := rq he
  refine w_g (g := !(decide (0 < (rd v_ k_)))) rfl rfl rfl wn_f (fun g43 => d_index (sz := 1) Tryd.underlying32 sz2 (cvt g43) h_v_.th.th (cvt g43) (c44 g43)) <| w_g (g := !(decide (0 < (rd v_ k_)))) rfl rfl rfl wn_f (fun g45 => d_ldint ty2 (cvt g45) h_v_.th.th (c44 g45)) <| w_g (g := !(decide (0 < (rd v_ k_)))) rfl rfl rfl wn_f (fun g46 => d_lss (cvt g46) rfl) <| w_d rfl (d_or' (b := (decide (0 < (rd v_ k_)))) (p := (decide ((rd v_ k_) < (-36028797018963968)))) rfl rfl rfl) <| w_done ?_
  rcases its he with ⟨c47, he⟩ | ⟨c47, he⟩
  ·
   refine w_then rfl c47 <| wR rfl <| wA (.bool false) rfl rfl <| w_done ?_
   obtain rfl := sj he
   refine w_return fn_19 rs_19 (.tmp (v := .bool false) rfl .nil) <| ⟨⟨[_, _], rfl⟩, hle, rfl⟩
  ·
   refine w_else rfl (Bool.eq_false_iff.2 c47) <| w_skip <| w_seq ?_
   obtain ⟨c48, he⟩ := rq he
   obtain ⟨y49, hy50, he⟩ := bs he
   refine w_drawn (p := 6) (tl := [6, 7]) [[], [], [], [(1, some 73), (2, some 74)], [(3, some 75)], [(4, some 76)]] [some 72, some 73, some 74, some 75, some 76, some 77] (fctF (.is (.agg ⟨[.bool sum_0, v_sum_1]⟩) :: .is (v_v_) :: .is (.int .i64 k_) :: .is (.pointer (some (pel v_v_ k_ 1))) :: .is (.int .i64 (rd v_ k_)) :: .of (radomeref01_Of.out y49) (radomeref01_Of.out_mono _) :: [])) (fun m_ => some (b_sum, .cells ⟨[.bool sum_0, v_sum_1]⟩ 76 (0, 0)) :: some (b_c_, .cells ⟨[v_c_0, .int .i64 c_1]⟩ 24 (0, 0)) :: L) (fun _ => none) mixed (by kernel_rfl) (by kernel_rfl) rfl (fct_mono (by kernel_rfl)) ⟨(fun H' m_ hH hm_ hu_ => dn <| s_d (m_ 0) rfl (d_loado (v := .agg ⟨[.bool sum_0, v_sum_1]⟩) ty76 rfl .here rfl rfl rfl rfl) (by exact rfl) rfl), (fun H' m_ hH hm_ hu_ => dn <| s_d (m_ 1) rfl (d_move (v := v_v_) rfl) (by exact rfl) rfl), (fun H' m_ hH hm_ hu_ => dn <| s_d (m_ 2) rfl (d_move (v := .int .i64 k_) rfl) (by exact rfl) rfl), (by rintro H' m_ hH hm_ hu_ _ rfl _ rfl; exact dn <| s_d (m_ 3) rfl (d_index (sz := 1) Tryd.underlying32 sz2 rfl (h_v_.mono hH).th.th rfl c48) (by exact rfl) rfl), (by rintro H' m_ hH hm_ hu_ _ rfl; exact dn <| s_d (m_ 4) rfl (d_ldint ty2 rfl (h_v_.mono hH).th.th c48) (by exact rfl) rfl), (by rintro H' m_ hH hm_ hu_ _ rfl; exact dn <| s_k (m_ 5) rfl (o_call co33 (vs := [.int .i64 (rd v_ k_)]) rfl (radomeref01_Of.calls k hy50)) rfl (by rintro v_ H_ _ ⟨rfl, e_, h_⟩; exact ⟨rfl, e_, h_⟩)), trivial⟩ ?_
   intro H55 e56
   rintro _ _ rfl _ _ rfl _ _ rfl _ _ rfl _ _ rfl _ _ ⟨v53, rfl, h54⟩
   obtain ⟨y57, hy58, he⟩ := bs he
   refine w_a rfl (o_call co32 (vs := [.agg ⟨[.bool sum_0, v_sum_1]⟩, .agg ⟨[.bool y49.f_Neg, v53]⟩]) rfl (radomeref01_Add.calls k (a := ⟨sum_0, sum_1⟩) (b := y49) hy58 (h_sum_1.mono e56) h54)) ?_
   rintro _ H59 _ ⟨rfl, e60, ⟨v61, rfl, h62⟩⟩
   refine w_a0 rfl (o_store (v := .agg ⟨[.bool y57.f_Neg, v61]⟩) sz76 rfl rfl rfl rfl (oc rfl (oc (h62.one) oz)) .here u2) ?_
   rintro _ _ _ ⟨rfl, rfl, rfl⟩
   refine wQ rfl <| wA (.int .i64 0) rfl rfl <| w_done <| w_block <| w_loop <| w_sl 1 (v_u) rfl <| w_sl 2 (v_v_) rfl <| w_sl 3 (.int .i64 total) rfl <| w_sl 4 (.pointer (some ⟨b_c_, 0, none⟩)) rfl <| w_sl 8 (.bool t8) rfl ?_
   refine w_sl 9 (.pointer (some ⟨b_sum, 0, none⟩)) rfl <| w_sl 11 (.int .i64 k_) rfl <| w_sl 12 (.int .i64 0) rfl <| hh.l2 (hle.trans (e56.trans e60)) he (h_u.mono (e56.trans e60)) (h_v_.mono (e56.trans e60)) (h_c_0.mono (e56.trans e60)) h62
 ·
  refine w_else rfl (df c39) <| w_exit rfl <| w_seq ?_
  obtain ⟨y63, hy64, he⟩ := bs he
  refine w_drawn (p := 3) (tl := [3, 4, 5]) [[], [], [(1, some 119)]] [some 118, some 119, some 120] (fctF (.is (.agg ⟨[.bool sum_0, v_sum_1]⟩) :: .is (.int .i64 total) :: .of (radomeref01_Of.out y63) (radomeref01_Of.out_mono _) :: [])) (fun m_ => some (b_sum, .cells ⟨[.bool sum_0, v_sum_1]⟩ 76 (0, 0)) :: some (b_c_, .cells ⟨[v_c_0, .int .i64 c_1]⟩ 24 (0, 0)) :: L) (fun _ => none) mixed (by kernel_rfl) (by kernel_rfl) rfl (fct_mono (by kernel_rfl)) ⟨(fun H' m_ hH hm_ hu_ => dn <| s_d (m_ 0) rfl (d_loado (v := .agg ⟨[.bool sum_0, v_sum_1]⟩) ty76 rfl .here rfl rfl rfl rfl) (by exact rfl) rfl), (fun H' m_ hH hm_ hu_ => dn <| s_d (m_ 1) rfl (d_move (v := .int .i64 total) rfl) (by exact rfl) rfl), (by rintro H' m_ hH hm_ hu_ _ rfl; exact dn <| s_k (m_ 2) rfl (o_call co33 (vs := [.int .i64 total]) rfl (radomeref01_Of.calls k hy64)) rfl (by rintro v_ H_ _ ⟨rfl, e_, h_⟩; exact ⟨rfl, e_, h_⟩)), trivial⟩ ?_
  intro H69 e70
  rintro _ _ rfl _ _ rfl _ _ ⟨v67, rfl, h68⟩
  obtain ⟨y71, hy72, he⟩ := bs he
  refine w_d rfl (call_d (o_call co34 (vs := [.agg ⟨[.bool sum_0, v_sum_1]⟩, .agg ⟨[.bool y63.f_Neg, v67]⟩]) rfl (radomeref01_Cmp.calls k (a := ⟨sum_0, sum_1⟩) (b := y63) hy72 (h_sum_1.mono e70) h68))) <| w_d rfl (d_eql rfl rfl) <| wA (.bool (decide (y71 = 0))) rfl rfl <| w_done ?_
  obtain rfl := sj he
  refine w_return fn_19 rs_19 (.tmp (v := .bool (decide (y71 = 0))) rfl .nil) <| ⟨⟨[_, _], rfl⟩, hle.trans e70, rfl⟩
theorem radomeref22_Shows.b2_ok {k : Nat} {h : radomeref22_Shows.Hs} (hh : radomeref22_Shows.OK h) {H0 H : Hp} {L : Items} {r : Bool} {jk_ : Nat → Value} {u : List Int} {v_ : List Int} {total : Int} {c_0 : List (List Int)} {c_1 : Int} {t8 : Bool} {sum_0 : Bool} {sum_1 : List Int} {k_ : Int} {i : Int} {v_u : Value} {v_v_ : Value} {v_c_0 : Value} {v_sum_1 : Value} {b_c_ : Nat} {b_sum : Nat} (hle : H0.le H) (he : radomeref22_Shows.b2 k h u v_ total c_0 c_1 t8 sum_0 sum_1 k_ i = some r) (h_u : Src kI64 H L v_u u) (h_v_ : Src kI64 H L v_v_ v_) (h_c_0 : Ro (Kd.slice kI64) H v_c_0 c_0) (h_sum_1 : Ro kI64 H v_sum_1 sum_1) : Wp Tryd.prog 19 123 radomeref22_Shows.Kl2 (upd (upd (upd (upd (upd (upd (upd (upd jk_ 1 (v_u)) 2 (v_v_)) 3 (.int .i64 total)) 4 (.pointer (some ⟨b_c_, 0, none⟩))) 8 (.bool t8)) 9 (.pointer (some ⟨b_sum, 0, none⟩))) 11 (.int .i64 k_)) 12 (.int .i64 i)) H (some (b_sum, .cells ⟨[.bool sum_0, v_sum_1]⟩ 76 (0, 0)) :: some (b_c_, .cells ⟨[v_c_0, .int .i64 c_1]⟩ 24 (0, 0)) :: L) (radomeref22_Shows.R H0 L r) := by
 unfold radomeref22_Shows.b2 at he
 unfold radomeref22_Shows.Kl2
 refine w_seq <| wR rfl <| wM (.int .i64 i) rfl rfl <| wM v_u rfl rfl <| w_d rfl (d_len Tryd.underlying32 rfl h_u.th.th) <| w_d rfl (d_lss rfl rfl) <| w_done ?_
 rcases its he with ⟨c75, he⟩ | ⟨c75, he⟩
 ·
  refine w_then rfl (dt c75) <| w_skip <| w_seq <| w_block <| w_seq ?_
  obtain ⟨c76, he⟩ := rq he
  obtain ⟨_, l77, r78⟩ := el_ro (kd := (Kd.slice kI64)) h_c_0 c76
  obtain ⟨v79, rfl, h80⟩ := r78
  obtain ⟨c81, he⟩ := rq he
  obtain ⟨c85, he⟩ := rq he
  obtain ⟨y88, hy89, he⟩ := bs he
  obtain ⟨c97, he⟩ := rq he
  obtain ⟨y100, hy101, he⟩ := bs he
  obtain ⟨y107, hy108, he⟩ := bs he
  obtain ⟨c117, he⟩ := rq he
  obtain ⟨v120, l119, h121⟩ : ∃ v120 : Value, ((decide (0 ≤ (rd (rd c_0 i) k_))) = true → Cells H (pel v_c_0 i 1) [v120]) ∧ ((decide (0 ≤ (rd (rd c_0 i) k_))) = true → Ro kI64 H v120 (rd c_0 i)) := if g_ : (decide (0 ≤ (rd (rd c_0 i) k_))) = true then (by obtain ⟨_, l_, r_⟩ := el_ro (kd := (Kd.slice kI64)) h_c_0 (c117 g_); obtain ⟨v120, rfl, h121⟩ := r_; exact ⟨v120, fun _ => l_, fun _ => h121⟩) else ⟨undef, fun h_ => absurd h_ g_, fun h_ => absurd h_ g_⟩
  obtain ⟨c124, he⟩ := rq he
  refine w_drawn (p := 29) (tl := [29, 30, 31, 32]) [[], [(0, some 85)], [], [(1, some 86), (2, some 87)], [(3, some 88)], [], [(4, some 89), (5, some 90)], [(6, some 91)], [(7, some 92)], [(8, some 93)], [(9, some 94)], [(9, some 94)], [(9, some 94), (10, some 95), (11, some 96)], [(9, some 94), (12, some 97)], [(9, some 94), (13, some 98)], [(9, some 94)], [(9, some 94)], [(9, some 94), (15, some 100), (16, some 101)], [(9, some 94), (17, some 102)], [(9, some 94), (18, some 103)], [(9, some 94), (14, some 99), (19, some 104)], [(9, some 94)], [(9, some 94), (21, some 106)], [(9, some 94)], [(9, some 94), (22, some 107), (23, some 108)], [(9, some 94), (24, some 109)], [(9, some 94)], [(9, some 94), (25, some 110), (26, some 111)], [(9, some 94), (27, some 112)]] [some 85, some 86, some 87, some 88, some 89, some 90, some 91, some 92, some 93, some 94, some 95, some 96, some 97, some 98, some 99, some 100, some 101, some 102, some 103, some 104, some 105, some 106, some 107, some 108, some 109, some 110, some 111, some 112, some 113] (fctF (.is (.pointer (some ⟨b_c_, 0, none⟩)) :: .is (v_c_0) :: .is (.int .i64 i) :: .is (.pointer (some (pel v_c_0 i 1))) :: .is (v79) :: .is (.int .i64 k_) :: .is (.pointer (some (pel v79 k_ 1))) :: .is (.int .i64 (rd (rd c_0 i) k_)) :: .is (.bool (decide (0 ≤ (rd (rd c_0 i) k_)))) :: .is (.bool (decide (0 ≤ (rd (rd c_0 i) k_)))) :: .is (cond (decide (0 ≤ (rd (rd c_0 i) k_))) v_u undef) :: .is (cond (decide (0 ≤ (rd (rd c_0 i) k_))) (.int .i64 i) undef) :: .is (cond (decide (0 ≤ (rd (rd c_0 i) k_))) (.pointer (some (pel v_u i 1))) undef) :: .is (cond (decide (0 ≤ (rd (rd c_0 i) k_))) (.int .i64 (rd u i)) undef) :: .of (fun H v => ∃ v92, v = cond (decide (0 ≤ (rd (rd c_0 i) k_))) (.agg ⟨[.bool y88.f_Neg, v92]⟩) undef ∧ ((decide (0 ≤ (rd (rd c_0 i) k_))) = true → Ro kI64 H v92 y88.f_D)) (by rintro _ _ _ hle ⟨v92, rfl, h93⟩; exact ⟨v92, rfl, fun g_ => (h93 g_).mono hle⟩) :: .is (cond (decide (0 ≤ (rd (rd c_0 i) k_))) v_v_ undef) :: .is (cond (decide (0 ≤ (rd (rd c_0 i) k_))) (.int .i64 k_) undef) :: .is (cond (decide (0 ≤ (rd (rd c_0 i) k_))) (.pointer (some (pel v_v_ k_ 1))) undef) :: .is (cond (decide (0 ≤ (rd (rd c_0 i) k_))) (.int .i64 (rd v_ k_)) undef) :: .of (fun H v => ∃ v104, v = cond (decide (0 ≤ (rd (rd c_0 i) k_))) (.agg ⟨[.bool y100.f_Neg, v104]⟩) undef ∧ ((decide (0 ≤ (rd (rd c_0 i) k_))) = true → Ro kI64 H v104 y100.f_D)) (by rintro _ _ _ hle ⟨v104, rfl, h105⟩; exact ⟨v104, rfl, fun g_ => (h105 g_).mono hle⟩) :: .of (fun H v => ∃ v111, v = cond (decide (0 ≤ (rd (rd c_0 i) k_))) (.agg ⟨[.bool y107.f_Neg, v111]⟩) undef ∧ ((decide (0 ≤ (rd (rd c_0 i) k_))) = true → Ro kI64 H v111 y107.f_D)) (by rintro _ _ _ hle ⟨v111, rfl, h112⟩; exact ⟨v111, rfl, fun g_ => (h112 g_).mono hle⟩) :: .is (cond (decide (0 ≤ (rd (rd c_0 i) k_))) (.pointer (some ⟨b_c_, 0, none⟩)) undef) :: .is (cond (decide (0 ≤ (rd (rd c_0 i) k_))) v_c_0 undef) :: .is (cond (decide (0 ≤ (rd (rd c_0 i) k_))) (.int .i64 i) undef) :: .is (cond (decide (0 ≤ (rd (rd c_0 i) k_))) (.pointer (some (pel v_c_0 i 1))) undef) :: .is (cond (decide (0 ≤ (rd (rd c_0 i) k_))) v120 undef) :: .is (cond (decide (0 ≤ (rd (rd c_0 i) k_))) (.int .i64 k_) undef) :: .is (cond (decide (0 ≤ (rd (rd c_0 i) k_))) (.pointer (some (pel v120 k_ 1))) undef) :: .is (cond (decide (0 ≤ (rd (rd c_0 i) k_))) (.int .i64 (rd (rd c_0 i) k_)) undef) :: [])) (fun m_ => some (b_sum, .cells ⟨[.bool sum_0, v_sum_1]⟩ 76 (0, 0)) :: some (b_c_, .cells ⟨[v_c_0, .int .i64 c_1]⟩ 24 (0, 0)) :: L) (fun _ => none) mixed (by kernel_rfl) (by kernel_rfl) rfl (fct_mono (by kernel_rfl)) ⟨(fun H' m_ hH hm_ hu_ => dn <| s_d (m_ 0) rfl (d_fld (o' := 0) Tryd.underlying24 rfl sz22 rfl rfl rfl) (by exact rfl) rfl), (by rintro H' m_ hH hm_ hu_ _ rfl; exact dn <| s_d (m_ 1) rfl (d_loado (v := v_c_0) ty22 rfl (.there .here) rfl rfl rfl rfl) (by exact rfl) rfl), (fun H' m_ hH hm_ hu_ => dn <| s_d (m_ 2) rfl (d_move (v := .int .i64 i) rfl) (by exact rfl) rfl), (by rintro H' m_ hH hm_ hu_ _ rfl _ rfl; exact dn <| s_d (m_ 3) rfl (d_index (sz := 1) Tryd.underlying22 sz32 rfl (h_c_0.mono hH).src rfl c76) (by exact rfl) rfl), (by rintro H' m_ hH hm_ hu_ _ rfl; exact dn <| s_d (m_ 4) rfl (d_load (v := v79) (cs := [v79]) ty32 rfl rfl (by decide) (l77.mono hH).lies rfl) (by exact rfl) rfl), (fun H' m_ hH hm_ hu_ => dn <| s_d (m_ 5) rfl (d_move (v := .int .i64 k_) rfl) (by exact rfl) rfl), (by rintro H' m_ hH hm_ hu_ _ rfl _ rfl; exact dn <| s_d (m_ 6) rfl (d_index (sz := 1) Tryd.underlying32 sz2 rfl (h80.mono hH).src rfl c81) (by exact rfl) rfl), (by rintro H' m_ hH hm_ hu_ _ rfl; exact dn <| s_d (m_ 7) rfl (d_ldint ty2 rfl (h80.mono hH).src c81) (by exact rfl) rfl), (by rintro H' m_ hH hm_ hu_ _ rfl; exact dn <| s_d (m_ 8) rfl (d_geq rfl rfl) (by exact rfl) rfl), (by rintro H' m_ hH hm_ hu_ _ rfl; exact dn <| s_d (m_ 9) rfl (d_move (v := .bool (decide (0 ≤ (rd (rd c_0 i) k_)))) rfl) (by exact rfl) rfl), (by rintro H' m_ hH hm_ hu_ _ rfl; exact dn <| s_g (g := decide (0 ≤ (rd (rd c_0 i) k_))) (m_ 10) rfl rfl rfl wn_t (fun g82 => d_move (v := v_u) rfl) rfl (by exact fun g_ => cvt g_) (by exact fun g_ => cnt g_)), (by rintro H' m_ hH hm_ hu_ _ rfl; exact dn <| s_g (g := decide (0 ≤ (rd (rd c_0 i) k_))) (m_ 11) rfl rfl rfl wn_t (fun g83 => d_move (v := .int .i64 i) rfl) rfl (by exact fun g_ => cvt g_) (by exact fun g_ => cnt g_)), (by rintro H' m_ hH hm_ hu_ _ rfl _ rfl _ rfl; exact dn <| s_g (g := decide (0 ≤ (rd (rd c_0 i) k_))) (m_ 12) rfl rfl rfl wn_t (fun g84 => d_index (sz := 1) Tryd.underlying32 sz2 (cvt g84) (h_u.mono hH).th.th (cvt g84) (c85 g84)) rfl (by exact fun g_ => cvt g_) (by exact fun g_ => cnt g_)), (by rintro H' m_ hH hm_ hu_ _ rfl _ rfl; exact dn <| s_g (g := decide (0 ≤ (rd (rd c_0 i) k_))) (m_ 13) rfl rfl rfl wn_t (fun g86 => d_ldint ty2 (cvt g86) (h_u.mono hH).th.th (c85 g86)) rfl (by exact fun g_ => cvt g_) (by exact fun g_ => cnt g_)), (by rintro H' m_ hH hm_ hu_ _ rfl _ rfl; exact dn <| s_gr (g := (decide (0 ≤ (rd (rd c_0 i) k_)))) (fun v92 => .agg ⟨[.bool y88.f_Neg, v92]⟩) (fun H v92 => Ro kI64 H v92 y88.f_D) (m_ 14) rfl rfl rfl wn_t (fun g87 => by exact o_call co33 (vs := [.int .i64 (rd u i)]) (acons (cvt g87) (anil)) (radomeref01_Of.calls k (gd_t g87 hy89))) rfl (by exact fun c_ H_ h_ => ⟨c_, rfl, h_⟩)), (by rintro H' m_ hH hm_ hu_ _ rfl; exact dn <| s_g (g := decide (0 ≤ (rd (rd c_0 i) k_))) (m_ 15) rfl rfl rfl wn_t (fun g94 => d_move (v := v_v_) rfl) rfl (by exact fun g_ => cvt g_) (by exact fun g_ => cnt g_)), (by rintro H' m_ hH hm_ hu_ _ rfl; exact dn <| s_g (g := decide (0 ≤ (rd (rd c_0 i) k_))) (m_ 16) rfl rfl rfl wn_t (fun g95 => d_move (v := .int .i64 k_) rfl) rfl (by exact fun g_ => cvt g_) (by exact fun g_ => cnt g_)), (by rintro H' m_ hH hm_ hu_ _ rfl _ rfl _ rfl; exact dn <| s_g (g := decide (0 ≤ (rd (rd c_0 i) k_))) (m_ 17) rfl rfl rfl wn_t (fun g96 => d_index (sz := 1) Tryd.underlying32 sz2 (cvt g96) (h_v_.mono hH).th.th (cvt g96) (c97 g96)) rfl (by exact fun g_ => cvt g_) (by exact fun g_ => cnt g_)), (by rintro H' m_ hH hm_ hu_ _ rfl _ rfl; exact dn <| s_g (g := decide (0 ≤ (rd (rd c_0 i) k_))) (m_ 18) rfl rfl rfl wn_t (fun g98 => d_ldint ty2 (cvt g98) (h_v_.mono hH).th.th (c97 g98)) rfl (by exact fun g_ => cvt g_) (by exact fun g_ => cnt g_)), (by rintro H' m_ hH hm_ hu_ _ rfl _ rfl; exact dn <| s_gr (g := (decide (0 ≤ (rd (rd c_0 i) k_)))) (fun v104 => .agg ⟨[.bool y100.f_Neg, v104]⟩) (fun H v104 => Ro kI64 H v104 y100.f_D) (m_ 19) rfl rfl rfl wn_t (fun g99 => by exact o_call co33 (vs := [.int .i64 (rd v_ k_)]) (acons (cvt g99) (anil)) (radomeref01_Of.calls k (gd_t g99 hy101))) rfl (by exact fun c_ H_ h_ => ⟨c_, rfl, h_⟩)), (by rintro H' m_ hH hm_ hu_ _ rfl _ ⟨v92, rfl, h93⟩ _ ⟨v104, rfl, h105⟩; exact dn <| s_gr (g := (decide (0 ≤ (rd (rd c_0 i) k_)))) (fun v111 => .agg ⟨[.bool y107.f_Neg, v111]⟩) (fun H v111 => Ro kI64 H v111 y107.f_D) (m_ 20) rfl rfl rfl wn_t (fun g106 => by exact o_call co32 (vs := [.agg ⟨[.bool y88.f_Neg, v92]⟩, .agg ⟨[.bool y100.f_Neg, v104]⟩]) (acons (cvt g106) (acons (cvt g106) (anil))) (radomeref01_Add.calls k (a := y88) (b := y100) (gd_t g106 hy108) (h93 g106) (h105 g106))) rfl (by exact fun c_ H_ h_ => ⟨c_, rfl, h_⟩)), (by rintro H' m_ hH hm_ hu_ _ rfl; exact dn <| s_g (g := decide (0 ≤ (rd (rd c_0 i) k_))) (m_ 21) rfl rfl rfl wn_t (fun g113 => d_fld (o' := 0) Tryd.underlying24 rfl sz22 rfl rfl rfl) rfl (by exact fun g_ => cvt g_) (by exact fun g_ => cnt g_)), (by rintro H' m_ hH hm_ hu_ _ rfl _ rfl; exact dn <| s_g (g := decide (0 ≤ (rd (rd c_0 i) k_))) (m_ 22) rfl rfl rfl wn_t (fun g114 => d_loado (v := v_c_0) ty22 (cvt g114) (.there .here) rfl rfl rfl rfl) rfl (by exact fun g_ => cvt g_) (by exact fun g_ => cnt g_)), (by rintro H' m_ hH hm_ hu_ _ rfl; exact dn <| s_g (g := decide (0 ≤ (rd (rd c_0 i) k_))) (m_ 23) rfl rfl rfl wn_t (fun g115 => d_move (v := .int .i64 i) rfl) rfl (by exact fun g_ => cvt g_) (by exact fun g_ => cnt g_)), (by rintro H' m_ hH hm_ hu_ _ rfl _ rfl _ rfl; exact dn <| s_g (g := decide (0 ≤ (rd (rd c_0 i) k_))) (m_ 24) rfl rfl rfl wn_t (fun g116 => d_index (sz := 1) Tryd.underlying22 sz32 (cvt g116) (h_c_0.mono hH).src (cvt g116) (c117 g116)) rfl (by exact fun g_ => cvt g_) (by exact fun g_ => cnt g_)), (by rintro H' m_ hH hm_ hu_ _ rfl _ rfl; exact dn <| s_g (g := decide (0 ≤ (rd (rd c_0 i) k_))) (m_ 25) rfl rfl rfl wn_t (fun g118 => d_load (v := v120) (cs := [v120]) ty32 (cvt g118) rfl (by decide) ((l119 g118).mono hH).lies rfl) rfl (by exact fun g_ => cvt g_) (by exact fun g_ => cnt g_)), (by rintro H' m_ hH hm_ hu_ _ rfl; exact dn <| s_g (g := decide (0 ≤ (rd (rd c_0 i) k_))) (m_ 26) rfl rfl rfl wn_t (fun g122 => d_move (v := .int .i64 k_) rfl) rfl (by exact fun g_ => cvt g_) (by exact fun g_ => cnt g_)), (by rintro H' m_ hH hm_ hu_ _ rfl _ rfl _ rfl; exact dn <| s_g (g := decide (0 ≤ (rd (rd c_0 i) k_))) (m_ 27) rfl rfl rfl wn_t (fun g123 => d_index (sz := 1) Tryd.underlying32 sz2 (cvt g123) ((h121 g123).mono hH).src (cvt g123) (c124 g123)) rfl (by exact fun g_ => cvt g_) (by exact fun g_ => cnt g_)), (by rintro H' m_ hH hm_ hu_ _ rfl _ rfl; exact dn <| s_g (g := decide (0 ≤ (rd (rd c_0 i) k_))) (m_ 28) rfl rfl rfl wn_t (fun g125 => d_ldint ty2 (cvt g125) ((h121 g125).mono hH).src (c124 g125)) rfl (by exact fun g_ => cvt g_) (by exact fun g_ => cnt g_)), trivial⟩ ?_
  intro H126 e127
  rintro _ _ rfl _ _ rfl _ _ rfl _ _ rfl _ _ rfl _ _ rfl _ _ rfl _ _ rfl _ _ rfl _ _ rfl _ _ rfl _ _ rfl _ _ rfl _ _ rfl _ _ ⟨v92, rfl, h93⟩ _ _ rfl _ _ rfl _ _ rfl _ _ rfl _ _ ⟨v104, rfl, h105⟩ _ _ ⟨v111, rfl, h112⟩ _ _ rfl _ _ rfl _ _ rfl _ _ rfl _ _ rfl _ _ rfl _ _ rfl _ _ rfl
  obtain ⟨y129, hy130, he⟩ := bs he
  refine w_gk (g := decide (0 ≤ (rd (rd c_0 i) k_))) rfl rfl rfl wn_t (fun g128 => o_call co33 (vs := [.int .i64 (rd (rd c_0 i) k_)]) (acons (cvt g128) (anil)) (radomeref01_Of.calls k (gd_t g128 hy130))) ?_
  intro v135 H131 e132 hp_ hq_
  obtain ⟨v133, rfl, h134⟩ := gk1 (T := fun v133 => .agg ⟨[.bool y129.f_Neg, v133]⟩) (Q := fun v133 => Ro kI64 H131 v133 y129.f_D) hp_ hq_
  obtain ⟨y137, hy138, he⟩ := bs he
  refine w_g (g := decide (0 ≤ (rd (rd c_0 i) k_))) rfl rfl rfl wn_t (fun g136 => call_d (o_call co34 (vs := [.agg ⟨[.bool y107.f_Neg, v111]⟩, .agg ⟨[.bool y129.f_Neg, v133]⟩]) (acons (cvt g136) (acons (cvt g136) (anil))) (radomeref01_Cmp.calls k (a := y107) (b := y129) (gd_t g136 hy138) ((h112 g136).mono e132) (h134 g136)))) <| w_g (g := decide (0 ≤ (rd (rd c_0 i) k_))) rfl rfl rfl wn_t (fun g141 => d_gtr (cvt g141) rfl) <| w_d rfl (d_and' (b := (decide (0 ≤ (rd (rd c_0 i) k_)))) (p := (decide (0 < y137))) rfl rfl rfl) <| w_done ?_
  rcases its he with ⟨c142, he⟩ | ⟨c142, he⟩
  ·
   refine w_then rfl c142 <| wR rfl <| wA (.bool false) rfl rfl <| w_done ?_
   obtain rfl := sj he
   refine w_return fn_19 rs_19 (.tmp (v := .bool false) rfl .nil) <| ⟨⟨[_, _], rfl⟩, hle.trans (e127.trans e132), rfl⟩
  ·
   refine w_else rfl (Bool.eq_false_iff.2 c142) <| w_skip <| w_inBlock <| w_region rfl <| wM (.int .i64 i) rfl rfl <| w_d rfl (d_add (c := w64 (i + 1)) rfl rfl rfl) <| wA (.int .i64 (w64 (i + 1))) rfl rfl <| w_done <| w_inLoop <| w_sl 1 (v_u) rfl <| w_sl 2 (v_v_) rfl <| w_sl 3 (.int .i64 total) rfl ?_
   refine w_sl 4 (.pointer (some ⟨b_c_, 0, none⟩)) rfl <| w_sl 8 (.bool t8) rfl <| w_sl 9 (.pointer (some ⟨b_sum, 0, none⟩)) rfl <| w_sl 11 (.int .i64 k_) rfl <| w_sl 12 (.int .i64 (w64 (i + 1))) rfl <| hh.l2 (hle.trans (e127.trans e132)) he (h_u.mono (e127.trans e132)) (h_v_.mono (e127.trans e132)) (h_c_0.mono (e127.trans e132)) (h_sum_1.mono (e127.trans e132))
 ·
  refine w_else rfl (df c75) <| w_exit rfl <| w_inBlock <| w_region rfl <| wM (.int .i64 k_) rfl rfl <| w_d rfl (d_add (c := w64 (k_ + 1)) rfl rfl rfl) <| wA (.int .i64 (w64 (k_ + 1))) rfl rfl <| w_done <| w_inLoop <| w_sl 1 (v_u) rfl <| w_sl 2 (v_v_) rfl <| w_sl 3 (.int .i64 total) rfl ?_
  refine w_sl 4 (.pointer (some ⟨b_c_, 0, none⟩)) rfl <| w_sl 8 (.bool t8) rfl <| w_sl 9 (.pointer (some ⟨b_sum, 0, none⟩)) rfl <| w_sl 11 (.int .i64 (w64 (k_ + 1))) rfl <| hh.l1 hle he h_u h_v_ h_c_0 h_sum_1
theorem radomeref22_Shows.ok : ∀ k, radomeref22_Shows.OK (radomeref22_Shows.hs k)
 | 0 => ⟨(by intros; exact nomatch (show none = some _ from by assumption)), (by intros; exact nomatch (show none = some _ from by assumption)), (by intros; exact nomatch (show none = some _ from by assumption))⟩
 | k + 1 => ⟨radomeref22_Shows.b0_ok (k := k) (radomeref22_Shows.ok k), radomeref22_Shows.b1_ok (k := k) (radomeref22_Shows.ok k), radomeref22_Shows.b2_ok (k := k) (radomeref22_Shows.ok k)⟩
theorem radomeref22_Shows.calls (k : Nat) {H : Hp} {L : Items} {c_ : radomeref20_Costs} {u : List Int} {v_ : List Int} {total : Int} {v0_c_ : Value} {v1_u : Value} {v2_v_ : Value} {r : Bool} (he : radomeref22_Shows.f k c_ u v_ total = some r) (h0_c_ : Ro (Kd.slice kI64) H v0_c_ c_.f_Rows) (h1_u : Src kI64 H L v1_u u) (h2_v_ : Src kI64 H L v2_v_ v_) : Ct Tryd.prog 19 ⟨[.agg ⟨[v0_c_, .int .i64 c_.f_Miss]⟩, v1_u, v2_v_, .int .i64 total]⟩ H L (fun v H' L' => L = L' ∧ H = H' ∧ v = .bool r) := by
 refine ct_outs (O := radomeref22_Shows.out r) (fun _ _ h => h) ?_
 have hle : H.le H := .refl _
 have hh := radomeref22_Shows.ok k
 unfold radomeref22_Shows.f at he
 refine ct_enter (args := [.agg ⟨[v0_c_, .int .i64 c_.f_Miss]⟩, v1_u, v2_v_, .int .i64 total]) fn_19 rfl nt_19 rfl <| wR rfl <| w_a rfl (o_box (v := .agg ⟨[v0_c_, .int .i64 c_.f_Miss]⟩) rfl rfl) ?_
 rintro _ _ _ ⟨b1, rfl, rfl, rfl⟩
 refine wA (.bool false) rfl rfl <| wE <| wR rfl <| wM v1_u rfl rfl <| w_d rfl (d_len Tryd.underlying32 rfl h1_u.th) <| w_d rfl (d_fld (o' := 0) Tryd.underlying24 rfl sz22 rfl rfl rfl) <| wL v0_c_ ty22 rfl rfl .here rfl rfl <| w_d rfl (d_len Tryd.underlying22 rfl h0_c_.src) <| w_d rfl (d_neq rfl rfl) <| wM (.bool (!decide ((u.length : Int) = (c_.f_Rows.length : Int)))) rfl rfl ?_
 refine w_g (g := !(!decide ((u.length : Int) = (c_.f_Rows.length : Int)))) rfl rfl rfl wn_f (fun g2 => d_move (v := v2_v_) rfl) <| w_g (g := !(!decide ((u.length : Int) = (c_.f_Rows.length : Int)))) rfl rfl rfl wn_f (fun g3 => d_len Tryd.underlying32 (cvt g3) h2_v_.th) <| w_g (g := !(!decide ((u.length : Int) = (c_.f_Rows.length : Int)))) rfl rfl rfl wn_f (fun g4 => d_loado (v := .agg ⟨[v0_c_, .int .i64 c_.f_Miss]⟩) ty24 rfl .here rfl rfl rfl rfl) ?_
 obtain ⟨y6, hy7, he⟩ := bs he
 refine w_g (g := !(!decide ((u.length : Int) = (c_.f_Rows.length : Int)))) rfl rfl rfl wn_f (fun g5 => call_d (o_call co28 (vs := [.agg ⟨[v0_c_, .int .i64 c_.f_Miss]⟩]) (acons (cvt g5) (anil)) (radomeref22_plots.calls k (c_ := c_) (gd_t g5 hy7) h0_c_))) <| w_g (g := !(!decide ((u.length : Int) = (c_.f_Rows.length : Int)))) rfl rfl rfl wn_f (fun g10 => d_neq (cvt g10) (cvt g10)) <| w_d rfl (d_or' (b := (!decide ((u.length : Int) = (c_.f_Rows.length : Int)))) (p := (!decide ((v_.length : Int) = y6))) rfl rfl rfl) <| w_done ?_
 rcases its he with ⟨c11, he⟩ | ⟨c11, he⟩
 ·
  refine w_then rfl c11 <| wR rfl <| wA (.bool false) rfl rfl <| w_done ?_
  obtain rfl := sj he
  refine w_return fn_19 rs_19 (.tmp (v := .bool false) rfl .nil) <| ⟨⟨[_], rfl⟩, hle, rfl⟩
 ·
  refine w_else rfl (Bool.eq_false_iff.2 c11) <| w_skip <| wR rfl <| w_d rfl (d_build (cs' := [.bool false, .slice none 0 0]) Tryd.underlying76 zr76 rfl (by kernel_rfl) (parts := []) rfl .nil) <| w_a rfl (o_alloc zr76 rfl) ?_
  rintro _ _ _ ⟨b12, rfl, rfl, rfl⟩
  refine w_a0 rfl (o_store (v := .agg ⟨[.bool false, .slice none 0 0]⟩) sz76 rfl rfl rfl rfl (oc rfl (oc rfl oz)) .here u2) ?_
  rintro _ _ _ ⟨rfl, rfl, rfl⟩
  refine wE <| wR rfl <| wA (.int .i64 0) rfl rfl <| w_done <| w_block <| w_loop <| w_sl 1 (v1_u) rfl <| w_sl 2 (v2_v_) rfl <| w_sl 3 (.int .i64 total) rfl <| w_sl 4 (.pointer (some ⟨b1, 0, none⟩)) rfl ?_
  refine w_sl 8 (.bool false) rfl <| w_sl 9 (.pointer (some ⟨b12, 0, none⟩)) rfl <| w_sl 10 (.int .i64 0) rfl <| hh.l0 hle he h1_u h2_v_ h0_c_ (ro_nil _ _)
noncomputable def radomelaw22_BestShows.C : Code := (Tryd.f5.body).getD .skip
def radomelaw22_BestShows.out (r : Bool) (H : Hp) (v : Value) : Prop := v = .bool r
noncomputable def radomelaw22_BestShows.f (k : Nat) (c_ : radomeref20_Costs) (l : T46) (total : Int) : Option Bool := (best_Shows.f k (⟨c_.f_Rows, c_.f_Miss⟩ : cost_Costs) l.e0 l.e1 total).bind fun y3 => (radomeref20_May.f k c_).bind fun y7 => if (!y7) = true then ((gd ((decide ((errN y3.2) = 1)) && (!y3.1)) (radomelaw22_sure.f k) (false)).bind fun y15 => some (((decide ((errN y3.2) = 1)) && (!y3.1)) && y15)) else ((gd y3.2.isNone (radomeref22_Shows.f k c_ l.e0 l.e1 total) (false)).bind fun y27 => (gd (y3.2.isNone && (y3.1 == y27)) (radomelaw22_sure.f k) (false)).bind fun y33 => some ((y3.2.isNone && (y3.1 == y27)) && y33))
theorem radomelaw22_BestShows.calls (k : Nat) {H : Hp} {L : Items} {c_ : radomeref20_Costs} {l : T46} {total : Int} {v0_c_ : Value} {v1_l : Value} {v2_l : Value} {r : Bool} (hG : GH H) (he : radomelaw22_BestShows.f k c_ l total = some r) (h0_c_ : Ro (Kd.slice kI64) H v0_c_ c_.f_Rows) (h1_l : Ro kI64 H v1_l l.e0) (h2_l : Ro kI64 H v2_l l.e1) : Ct Tryd.prog 5 ⟨[.agg ⟨[v0_c_, .int .i64 c_.f_Miss]⟩, .agg ⟨[v1_l, v2_l]⟩, .int .i64 total]⟩ H L (fun v H' L' => L = L' ∧ H = H' ∧ v = .bool r) := by
 refine ct_outs (O := radomelaw22_BestShows.out r) (fun _ _ h => h) ?_
 have hle : H.le H := .refl _
 unfold radomelaw22_BestShows.f at he
 refine ct_enter (args := [.agg ⟨[v0_c_, .int .i64 c_.f_Miss]⟩, .agg ⟨[v1_l, v2_l]⟩, .int .i64 total]) fn_5 rfl nt_5 rfl <| wR rfl <| w_a rfl (o_box (v := .agg ⟨[v0_c_, .int .i64 c_.f_Miss]⟩) rfl rfl) ?_
 rintro _ _ _ ⟨b1, rfl, rfl, rfl⟩
 refine w_a rfl (o_box (v := .agg ⟨[v1_l, v2_l]⟩) rfl rfl) ?_
 rintro _ _ _ ⟨b2, rfl, rfl, rfl⟩
 refine wA (.bool false) rfl rfl <| wQ rfl <| wL (.agg ⟨[v0_c_, .int .i64 c_.f_Miss]⟩) ty24 rfl rfl (.there .here) rfl rfl <| w_d rfl (d_idxArr (o' := 0) Tryd.underlying46 sz32 rfl rfl (by decide) rfl) <| wL v1_l ty32 rfl rfl .here rfl rfl <| w_d rfl (d_idxArr (o' := 1) Tryd.underlying46 sz32 rfl rfl (by decide) rfl) <| wL v2_l ty32 rfl rfl .here rfl rfl <| wM (.int .i64 total) rfl rfl ?_
 obtain ⟨y3, hy4, he⟩ := bs he
 refine w_d rfl (call_d (o_call co18 (vs := [.agg ⟨[v0_c_, .int .i64 c_.f_Miss]⟩, v1_l, v2_l, .int .i64 total]) rfl (best_Shows.calls k (c_ := ⟨c_.f_Rows, c_.f_Miss⟩) hy4 h0_c_ h1_l.src h2_l.src))) <| wM (.tuple ⟨[.bool y3.1, errV 51 y3.2]⟩) rfl rfl <| w_d rfl (d_ext (vs := [.bool y3.1, errV 51 y3.2]) rfl rfl) <| w_d rfl (d_ext (vs := [.bool y3.1, errV 51 y3.2]) rfl rfl) <| wA (.bool y3.1) rfl rfl <| wA (errV 51 y3.2) rfl rfl <| wE <| wR rfl <| wL (.agg ⟨[v0_c_, .int .i64 c_.f_Miss]⟩) ty24 rfl rfl (.there .here) rfl rfl ?_
 obtain ⟨y7, hy8, he⟩ := bs he
 refine w_d rfl (call_d (o_call co8 (vs := [.agg ⟨[v0_c_, .int .i64 c_.f_Miss]⟩]) rfl (radomeref20_May.calls k (c_ := c_) hy8 h0_c_))) <| w_d rfl (d_not (b := y7) rfl) <| w_done ?_
 rcases its he with ⟨c11, he⟩ | ⟨c11, he⟩
 ·
  refine w_then rfl c11 <| wR rfl <| wM (errV 51 y3.2) rfl rfl <| w_d rfl (call_d (o_call co15 (vs := [errV 51 y3.2]) rfl (num15.calls (hG) rfl))) <| w_d rfl (d_eql rfl rfl) <| wM (.bool (decide ((errN y3.2) = 1))) rfl rfl <| w_g (g := decide ((errN y3.2) = 1)) rfl rfl rfl wn_t (fun g12 => d_move (v := .bool y3.1) rfl) <| w_g (g := decide ((errN y3.2) = 1)) rfl rfl rfl wn_t (fun g13 => d_not (b := y3.1) (cvt g13)) <| w_d rfl (d_and' (b := (decide ((errN y3.2) = 1))) (p := (!y3.1)) rfl rfl rfl) <| wM (.bool ((decide ((errN y3.2) = 1)) && (!y3.1))) rfl rfl ?_
  obtain ⟨y15, hy16, he⟩ := bs he
  refine w_g (g := (decide ((errN y3.2) = 1)) && (!y3.1)) rfl rfl rfl wn_t (fun g14 => call_d (o_call co13 (vs := []) rfl (radomelaw22_sure.calls k (gd_t g14 hy16)))) <| w_d rfl (d_and' (b := ((decide ((errN y3.2) = 1)) && (!y3.1))) (p := y15) rfl rfl rfl) <| wA (.bool (((decide ((errN y3.2) = 1)) && (!y3.1)) && y15)) rfl rfl <| w_done ?_
  obtain rfl := sj he
  refine w_return fn_5 rs_5 (.tmp (v := .bool (((decide ((errN y3.2) = 1)) && (!y3.1)) && y15)) rfl .nil) <| ⟨⟨[_, _], rfl⟩, hle, rfl⟩
 ·
  refine w_else rfl (Bool.eq_false_iff.2 c11) <| w_skip <| wR rfl <| wM (errV 51 y3.2) rfl rfl <| w_d rfl (d_eqnil (e := y3.2) Tryd.underlying27 rfl) <| wM (.bool y3.2.isNone) rfl rfl <| w_g (g := y3.2.isNone) rfl rfl rfl wn_t (fun g19 => d_move (v := .bool y3.1) rfl) <| w_g (g := y3.2.isNone) rfl rfl rfl wn_t (fun g20 => d_loado (v := .agg ⟨[v0_c_, .int .i64 c_.f_Miss]⟩) ty24 rfl (.there .here) rfl rfl rfl rfl) <| w_g (g := y3.2.isNone) rfl rfl rfl wn_t (fun g21 => d_idxArr (o' := 0) Tryd.underlying46 sz32 rfl rfl (by decide) rfl) <| w_g (g := y3.2.isNone) rfl rfl rfl wn_t (fun g22 => d_loado (v := v1_l) ty32 (cvt g22) .here rfl rfl rfl rfl) <| w_g (g := y3.2.isNone) rfl rfl rfl wn_t (fun g23 => d_idxArr (o' := 1) Tryd.underlying46 sz32 rfl rfl (by decide) rfl) ?_
  refine w_g (g := y3.2.isNone) rfl rfl rfl wn_t (fun g24 => d_loado (v := v2_l) ty32 (cvt g24) .here rfl rfl rfl rfl) <| w_g (g := y3.2.isNone) rfl rfl rfl wn_t (fun g25 => d_move (v := .int .i64 total) rfl) ?_
  obtain ⟨y27, hy28, he⟩ := bs he
  refine w_g (g := y3.2.isNone) rfl rfl rfl wn_t (fun g26 => call_d (o_call co19 (vs := [.agg ⟨[v0_c_, .int .i64 c_.f_Miss]⟩, v1_l, v2_l, .int .i64 total]) (acons (cvt g26) (acons (cvt g26) (acons (cvt g26) (acons (cvt g26) (anil))))) (radomeref22_Shows.calls k (c_ := c_) (gd_t g26 hy28) h0_c_ h1_l.src h2_l.src))) <| w_g (g := y3.2.isNone) rfl rfl rfl wn_t (fun g31 => d_eqb (a := y3.1) (b := y27) Tryd.underlying4 (cvt g31) (cvt g31)) <| w_d rfl (d_and' (b := y3.2.isNone) (p := (y3.1 == y27)) rfl rfl rfl) <| wM (.bool (y3.2.isNone && (y3.1 == y27))) rfl rfl ?_
  obtain ⟨y33, hy34, he⟩ := bs he
  refine w_g (g := y3.2.isNone && (y3.1 == y27)) rfl rfl rfl wn_t (fun g32 => call_d (o_call co13 (vs := []) rfl (radomelaw22_sure.calls k (gd_t g32 hy34)))) <| w_d rfl (d_and' (b := (y3.2.isNone && (y3.1 == y27))) (p := y33) rfl rfl rfl) <| wA (.bool ((y3.2.isNone && (y3.1 == y27)) && y33)) rfl rfl <| w_done ?_
  obtain rfl := sj he
  refine w_return fn_5 rs_5 (.tmp (v := .bool ((y3.2.isNone && (y3.1 == y27)) && y33)) rfl .nil) <| ⟨⟨[_, _], rfl⟩, hle, rfl⟩
end Go.Proofs.YtacbficpehmlnaaDoor.GBS

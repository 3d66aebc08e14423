/- A text of this session, written by a program (wip/k/gen.py): Go functions as Lean functions, and proofs that the code comes to them. -/
import Derived.Test.YtddcfnhbedpbnaaDoorGTRx0
namespace Go.Proofs.YtddcfnhbedpbnaaDoor.GTR
open Go Go.RowKit Go.Proofs.YtddcfnhbedpbnaaDoorK Go.Proofs.YtddcfnhbedpbnaaDoor
set_option linter.unusedVariables false
set_option linter.unusedSimpArgs false
/-! ### radome/radomeref01.Add -/
noncomputable def radomeref01_Add.C : Code := (Tryd.f56.body).getD .skip
def radomeref01_Add.out (r : radomeref01_Num) (H : Hp) (v : Value) : Prop := ∃ v0, v = .agg ⟨[.bool r.f_Neg, v0]⟩ ∧ Ro (Kd.int .i64) H v0 r.f_D
theorem radomeref01_Add.out_mono (r : radomeref01_Num) {H H' : Hp} {v : Value} (hle : H.le H') (h : radomeref01_Add.out r H v) : radomeref01_Add.out r H' v := by
 obtain ⟨v0, rfl, h0⟩ := h; exact ⟨v0, rfl, h0.mono hle⟩
abbrev radomeref01_Add.R (H0 : Hp) (L : Items) (r : radomeref01_Num) : Value → Hp → Items → Prop := fun v H' L' => (∃ p, L' = p ++ L) ∧ H0.le H' ∧ radomeref01_Add.out r H' v
noncomputable def radomeref01_Add.f (k : Nat) (a : radomeref01_Num) (b : radomeref01_Num) : Option radomeref01_Num := if (a.f_Neg == b.f_Neg) = true then ((radomeref01_plus.f k a.f_D b.f_D).bind fun y5 => (radomeref01_num.f k a.f_Neg y5).bind fun y13 => some ((⟨y13.f_Neg, y13.f_D⟩ : radomeref01_Num))) else ((radomeref01_Less.f k a.f_D b.f_D).bind fun y19 => if y19 = true then ((radomeref01_minus.f k b.f_D a.f_D).bind fun y24 => (radomeref01_num.f k b.f_Neg y24).bind fun y32 => some ((⟨y32.f_Neg, y32.f_D⟩ : radomeref01_Num))) else ((radomeref01_minus.f k a.f_D b.f_D).bind fun y38 => (radomeref01_num.f k a.f_Neg y38).bind fun y46 => some ((⟨y46.f_Neg, y46.f_D⟩ : radomeref01_Num))))
theorem radomeref01_Add.mono : ∀ k y0 y1, LeO (radomeref01_Add.f k y0 y1) (radomeref01_Add.f (k + 1) y0 y1) := fun k _ _ => by unfold radomeref01_Add.f; exact (LeO.ite (LeO.bind (radomeref01_plus.mono k _ _) fun _ => LeO.bind (radomeref01_num.mono k _ _) fun _ => LeO.refl _) (LeO.bind (radomeref01_Less.mono k _ _) fun _ => LeO.ite (LeO.bind (radomeref01_minus.mono k _ _) fun _ => LeO.bind (radomeref01_num.mono k _ _) fun _ => LeO.refl _) (LeO.bind (radomeref01_minus.mono k _ _) fun _ => LeO.bind (radomeref01_num.mono k _ _) fun _ => LeO.refl _)))
set_option maxRecDepth 100000 in
set_option maxHeartbeats 2000000 in
theorem radomeref01_Add.calls (k : Nat) {H : Hp} {L : Items} {a : radomeref01_Num} {b : radomeref01_Num} {v0_a : Value} {v1_b : Value} {r : radomeref01_Num} (he : radomeref01_Add.f k a b = some r) (h0_a : Ro (Kd.int .i64) H v0_a a.f_D) (h1_b : Ro (Kd.int .i64) H v1_b b.f_D) : Ct Tryd.prog 56 ⟨[.agg ⟨[.bool a.f_Neg, v0_a]⟩, .agg ⟨[.bool b.f_Neg, v1_b]⟩]⟩ H L (fun v H' L' => L = L' ∧ H.le H' ∧ radomeref01_Add.out r H' v) := by
 refine ct_out (O := radomeref01_Add.out r) ?_
 have hle : H.le H := .refl _
 unfold radomeref01_Add.f at he
 refine ct_enter (args := [.agg ⟨[.bool a.f_Neg, v0_a]⟩, .agg ⟨[.bool b.f_Neg, v1_b]⟩]) fn_56 rfl nt_56 rfl ?_
 refine w_seq ?_
 refine w_region rfl ?_
 refine w_a rfl (o_box (v := .agg ⟨[.bool a.f_Neg, v0_a]⟩) rfl rfl) ?_
 rintro _ _ _ ⟨b1, rfl, rfl, rfl⟩
 refine w_a rfl (o_box (v := .agg ⟨[.bool b.f_Neg, v1_b]⟩) rfl rfl) ?_
 rintro _ _ _ ⟨b2, rfl, rfl, rfl⟩
 refine w_a rfl (o_alloc zr43 rfl) ?_
 rintro _ _ _ ⟨b3, rfl, rfl, rfl⟩
 refine w_done ?_
 refine w_seq ?_
 refine w_seq ?_
 refine w_region rfl ?_
 refine w_d rfl (d_fld (o' := 0) Tryd.underlying43 rfl sz4 rfl rfl rfl) ?_
 refine w_d rfl (d_loado (v := .bool a.f_Neg) ty4 rfl (.there (.there .here)) rfl rfl rfl rfl) ?_
 refine w_d rfl (d_fld (o' := 0) Tryd.underlying43 rfl sz4 rfl rfl rfl) ?_
 refine w_d rfl (d_loado (v := .bool b.f_Neg) ty4 rfl (.there .here) rfl rfl rfl rfl) ?_
 refine w_d rfl (d_eqb (a := a.f_Neg) (b := b.f_Neg) Tryd.underlying4 rfl rfl) ?_
 refine w_done ?_
 rcases its he with ⟨c4, he⟩ | ⟨c4, he⟩
 ·
  refine w_then rfl c4 ?_
  refine w_seq ?_
  obtain ⟨y5, hy6, he⟩ := Option.bind_eq_some_iff.1 he
  refine w_drawn (p := 7) (tl := [7, 8]) [[], [(0, some 10)], [], [(2, some 12)], [], [(4, some 14)], [(3, some 13), (5, some 15)]] [some 10, some 11, some 12, some 13, some 14, some 15, some 16] (fctF [.is (.pointer (some ⟨b1, 0, none⟩)), .is (.bool a.f_Neg), .is (.pointer (some ⟨b1, 1, none⟩)), .is (v0_a), .is (.pointer (some ⟨b2, 1, none⟩)), .is (v1_b), .ro (Kd.int .i64) (y5)]) (fun m_ => some (b3, .cells ⟨[.bool false, .slice none 0 0]⟩ 43 (0, 0)) :: some (b2, .cells ⟨[.bool b.f_Neg, v1_b]⟩ 43 (0, 0)) :: some (b1, .cells ⟨[.bool a.f_Neg, v0_a]⟩ 43 (0, 0)) :: L) (fun _ => none) mixed (by kernel_rfl) (by kernel_rfl) rfl (fct_mono (by kernel_rfl)) ⟨(by intro H' m_ hH hm_ hu_; refine depK_nil ?_; exact s_d (m_ 0) rfl (d_fld (o' := 0) Tryd.underlying43 rfl sz4 rfl rfl rfl) (by exact rfl) rfl), (by intro H' m_ hH hm_ hu_; rintro _ rfl; refine depK_nil ?_; exact s_d (m_ 1) rfl (d_loado (v := .bool a.f_Neg) ty4 rfl (.there (.there .here)) rfl rfl rfl rfl) (by exact rfl) rfl), (by intro H' m_ hH hm_ hu_; refine depK_nil ?_; exact s_d (m_ 2) rfl (d_fld (o' := 1) Tryd.underlying43 rfl sz41 rfl rfl rfl) (by exact rfl) rfl), (by intro H' m_ hH hm_ hu_; rintro _ rfl; refine depK_nil ?_; exact s_d (m_ 3) rfl (d_loado (v := v0_a) ty41 rfl (.there (.there .here)) rfl rfl rfl rfl) (by exact rfl) rfl), (by intro H' m_ hH hm_ hu_; refine depK_nil ?_; exact s_d (m_ 4) rfl (d_fld (o' := 1) Tryd.underlying43 rfl sz41 rfl rfl rfl) (by exact rfl) rfl), (by intro H' m_ hH hm_ hu_; rintro _ rfl; refine depK_nil ?_; exact s_d (m_ 5) rfl (d_loado (v := v1_b) ty41 rfl (.there .here) rfl rfl rfl rfl) (by exact rfl) rfl), (by intro H' m_ hH hm_ hu_; rintro _ rfl _ rfl; refine depK_nil ?_; exact s_k (m_ 6) rfl (o_call co67 (vs := [v0_a, v1_b]) rfl (radomeref01_plus.calls k hy6 (h0_a.mono hH) (h1_b.mono hH))) rfl (by rintro v_ H_ _ ⟨rfl, e_, h_⟩; exact ⟨rfl, e_, h_⟩)), trivial⟩ ?_
  intro H11 e12
  rintro _ _ rfl _ _ rfl _ _ rfl _ _ rfl _ _ rfl _ _ rfl v9 _ (h10 : Ro (Kd.int .i64) H11 v9 y5)
  obtain ⟨y13, hy14, he⟩ := Option.bind_eq_some_iff.1 he
  refine w_a rfl (o_call co57 (vs := [.bool a.f_Neg, v9]) rfl (radomeref01_num.calls k hy14 h10)) ?_
  rintro _ H15 _ ⟨rfl, e16, ⟨v17, rfl, h18⟩⟩
  refine w_a0 rfl (o_store (v := .agg ⟨[.bool y13.f_Neg, v17]⟩) sz43 rfl rfl rfl rfl (one_cons rfl (one_cons (h18.one) one_nil)) .here (.here (.here .done))) ?_
  rintro _ _ _ ⟨rfl, rfl, rfl⟩
  refine w_done ?_
  obtain rfl := Option.some.inj he
  refine w_return fn_56 rs_56 (.box (v := .agg ⟨[.bool y13.f_Neg, v17]⟩) rfl ty43 rfl rfl .here rfl .nil) ?_
  exact ⟨⟨[_, _, _], rfl⟩, hle.trans (e12.trans e16), ⟨v17, rfl, h18⟩⟩
 ·
  refine w_else rfl (Bool.eq_false_iff.2 c4) ?_
  refine w_skip ?_
  refine w_seq ?_
  refine w_seq ?_
  refine w_region rfl ?_
  refine w_d rfl (d_fld (o' := 1) Tryd.underlying43 rfl sz41 rfl rfl rfl) ?_
  refine w_d rfl (d_loado (v := v0_a) ty41 rfl (.there (.there .here)) rfl rfl rfl rfl) ?_
  refine w_d rfl (d_fld (o' := 1) Tryd.underlying43 rfl sz41 rfl rfl rfl) ?_
  refine w_d rfl (d_loado (v := v1_b) ty41 rfl (.there .here) rfl rfl rfl rfl) ?_
  obtain ⟨y19, hy20, he⟩ := Option.bind_eq_some_iff.1 he
  refine w_d rfl (call_d (o_call co64 (vs := [v0_a, v1_b]) rfl (radomeref01_Less.calls k hy20 h0_a h1_b))) ?_
  refine w_done ?_
  rcases its he with ⟨c23, he⟩ | ⟨c23, he⟩
  ·
   refine w_then rfl c23 ?_
   refine w_seq ?_
   obtain ⟨y24, hy25, he⟩ := Option.bind_eq_some_iff.1 he
   refine w_drawn (p := 7) (tl := [7, 8]) [[], [(0, some 23)], [], [(2, some 25)], [], [(4, some 27)], [(3, some 26), (5, some 28)]] [some 23, some 24, some 25, some 26, some 27, some 28, some 29] (fctF [.is (.pointer (some ⟨b2, 0, none⟩)), .is (.bool b.f_Neg), .is (.pointer (some ⟨b2, 1, none⟩)), .is (v1_b), .is (.pointer (some ⟨b1, 1, none⟩)), .is (v0_a), .ro (Kd.int .i64) (y24)]) (fun m_ => some (b3, .cells ⟨[.bool false, .slice none 0 0]⟩ 43 (0, 0)) :: some (b2, .cells ⟨[.bool b.f_Neg, v1_b]⟩ 43 (0, 0)) :: some (b1, .cells ⟨[.bool a.f_Neg, v0_a]⟩ 43 (0, 0)) :: L) (fun _ => none) mixed (by kernel_rfl) (by kernel_rfl) rfl (fct_mono (by kernel_rfl)) ⟨(by intro H' m_ hH hm_ hu_; refine depK_nil ?_; exact s_d (m_ 0) rfl (d_fld (o' := 0) Tryd.underlying43 rfl sz4 rfl rfl rfl) (by exact rfl) rfl), (by intro H' m_ hH hm_ hu_; rintro _ rfl; refine depK_nil ?_; exact s_d (m_ 1) rfl (d_loado (v := .bool b.f_Neg) ty4 rfl (.there .here) rfl rfl rfl rfl) (by exact rfl) rfl), (by intro H' m_ hH hm_ hu_; refine depK_nil ?_; exact s_d (m_ 2) rfl (d_fld (o' := 1) Tryd.underlying43 rfl sz41 rfl rfl rfl) (by exact rfl) rfl), (by intro H' m_ hH hm_ hu_; rintro _ rfl; refine depK_nil ?_; exact s_d (m_ 3) rfl (d_loado (v := v1_b) ty41 rfl (.there .here) rfl rfl rfl rfl) (by exact rfl) rfl), (by intro H' m_ hH hm_ hu_; refine depK_nil ?_; exact s_d (m_ 4) rfl (d_fld (o' := 1) Tryd.underlying43 rfl sz41 rfl rfl rfl) (by exact rfl) rfl), (by intro H' m_ hH hm_ hu_; rintro _ rfl; refine depK_nil ?_; exact s_d (m_ 5) rfl (d_loado (v := v0_a) ty41 rfl (.there (.there .here)) rfl rfl rfl rfl) (by exact rfl) rfl), (by intro H' m_ hH hm_ hu_; rintro _ rfl _ rfl; refine depK_nil ?_; exact s_k (m_ 6) rfl (o_call co65 (vs := [v1_b, v0_a]) rfl (radomeref01_minus.calls k hy25 (h1_b.mono hH) (h0_a.mono hH))) rfl (by rintro v_ H_ _ ⟨rfl, e_, h_⟩; exact ⟨rfl, e_, h_⟩)), trivial⟩ ?_
   intro H30 e31
   rintro _ _ rfl _ _ rfl _ _ rfl _ _ rfl _ _ rfl _ _ rfl v28 _ (h29 : Ro (Kd.int .i64) H30 v28 y24)
   obtain ⟨y32, hy33, he⟩ := Option.bind_eq_some_iff.1 he
   refine w_a rfl (o_call co57 (vs := [.bool b.f_Neg, v28]) rfl (radomeref01_num.calls k hy33 h29)) ?_
   rintro _ H34 _ ⟨rfl, e35, ⟨v36, rfl, h37⟩⟩
   refine w_a0 rfl (o_store (v := .agg ⟨[.bool y32.f_Neg, v36]⟩) sz43 rfl rfl rfl rfl (one_cons rfl (one_cons (h37.one) one_nil)) .here (.here (.here .done))) ?_
   rintro _ _ _ ⟨rfl, rfl, rfl⟩
   refine w_done ?_
   obtain rfl := Option.some.inj he
   refine w_return fn_56 rs_56 (.box (v := .agg ⟨[.bool y32.f_Neg, v36]⟩) rfl ty43 rfl rfl .here rfl .nil) ?_
   exact ⟨⟨[_, _, _], rfl⟩, hle.trans (e31.trans e35), ⟨v36, rfl, h37⟩⟩
  ·
   refine w_else rfl (Bool.eq_false_iff.2 c23) ?_
   refine w_skip ?_
   refine w_seq ?_
   obtain ⟨y38, hy39, he⟩ := Option.bind_eq_some_iff.1 he
   refine w_drawn (p := 7) (tl := [7, 8]) [[], [(0, some 31)], [], [(2, some 33)], [], [(4, some 35)], [(3, some 34), (5, some 36)]] [some 31, some 32, some 33, some 34, some 35, some 36, some 37] (fctF [.is (.pointer (some ⟨b1, 0, none⟩)), .is (.bool a.f_Neg), .is (.pointer (some ⟨b1, 1, none⟩)), .is (v0_a), .is (.pointer (some ⟨b2, 1, none⟩)), .is (v1_b), .ro (Kd.int .i64) (y38)]) (fun m_ => some (b3, .cells ⟨[.bool false, .slice none 0 0]⟩ 43 (0, 0)) :: some (b2, .cells ⟨[.bool b.f_Neg, v1_b]⟩ 43 (0, 0)) :: some (b1, .cells ⟨[.bool a.f_Neg, v0_a]⟩ 43 (0, 0)) :: L) (fun _ => none) mixed (by kernel_rfl) (by kernel_rfl) rfl (fct_mono (by kernel_rfl)) ⟨(by intro H' m_ hH hm_ hu_; refine depK_nil ?_; exact s_d (m_ 0) rfl (d_fld (o' := 0) Tryd.underlying43 rfl sz4 rfl rfl rfl) (by exact rfl) rfl), (by intro H' m_ hH hm_ hu_; rintro _ rfl; refine depK_nil ?_; exact s_d (m_ 1) rfl (d_loado (v := .bool a.f_Neg) ty4 rfl (.there (.there .here)) rfl rfl rfl rfl) (by exact rfl) rfl), (by intro H' m_ hH hm_ hu_; refine depK_nil ?_; exact s_d (m_ 2) rfl (d_fld (o' := 1) Tryd.underlying43 rfl sz41 rfl rfl rfl) (by exact rfl) rfl), (by intro H' m_ hH hm_ hu_; rintro _ rfl; refine depK_nil ?_; exact s_d (m_ 3) rfl (d_loado (v := v0_a) ty41 rfl (.there (.there .here)) rfl rfl rfl rfl) (by exact rfl) rfl), (by intro H' m_ hH hm_ hu_; refine depK_nil ?_; exact s_d (m_ 4) rfl (d_fld (o' := 1) Tryd.underlying43 rfl sz41 rfl rfl rfl) (by exact rfl) rfl), (by intro H' m_ hH hm_ hu_; rintro _ rfl; refine depK_nil ?_; exact s_d (m_ 5) rfl (d_loado (v := v1_b) ty41 rfl (.there .here) rfl rfl rfl rfl) (by exact rfl) rfl), (by intro H' m_ hH hm_ hu_; rintro _ rfl _ rfl; refine depK_nil ?_; exact s_k (m_ 6) rfl (o_call co65 (vs := [v0_a, v1_b]) rfl (radomeref01_minus.calls k hy39 (h0_a.mono hH) (h1_b.mono hH))) rfl (by rintro v_ H_ _ ⟨rfl, e_, h_⟩; exact ⟨rfl, e_, h_⟩)), trivial⟩ ?_
   intro H44 e45
   rintro _ _ rfl _ _ rfl _ _ rfl _ _ rfl _ _ rfl _ _ rfl v42 _ (h43 : Ro (Kd.int .i64) H44 v42 y38)
   obtain ⟨y46, hy47, he⟩ := Option.bind_eq_some_iff.1 he
   refine w_a rfl (o_call co57 (vs := [.bool a.f_Neg, v42]) rfl (radomeref01_num.calls k hy47 h43)) ?_
   rintro _ H48 _ ⟨rfl, e49, ⟨v50, rfl, h51⟩⟩
   refine w_a0 rfl (o_store (v := .agg ⟨[.bool y46.f_Neg, v50]⟩) sz43 rfl rfl rfl rfl (one_cons rfl (one_cons (h51.one) one_nil)) .here (.here (.here .done))) ?_
   rintro _ _ _ ⟨rfl, rfl, rfl⟩
   refine w_done ?_
   obtain rfl := Option.some.inj he
   refine w_return fn_56 rs_56 (.box (v := .agg ⟨[.bool y46.f_Neg, v50]⟩) rfl ty43 rfl rfl .here rfl .nil) ?_
   exact ⟨⟨[_, _, _], rfl⟩, hle.trans (e45.trans e49), ⟨v50, rfl, h51⟩⟩
/-! ### radome/radomeref01.Two -/
noncomputable def radomeref01_Two.C : Code := (Tryd.f45.body).getD .skip
def radomeref01_Two.out (r : radomeref01_Num) (H : Hp) (v : Value) : Prop := ∃ v0, v = .agg ⟨[.bool r.f_Neg, v0]⟩ ∧ Ro (Kd.int .i64) H v0 r.f_D
theorem radomeref01_Two.out_mono (r : radomeref01_Num) {H H' : Hp} {v : Value} (hle : H.le H') (h : radomeref01_Two.out r H v) : radomeref01_Two.out r H' v := by
 obtain ⟨v0, rfl, h0⟩ := h; exact ⟨v0, rfl, h0.mono hle⟩
abbrev radomeref01_Two.R (H0 : Hp) (L : Items) (r : radomeref01_Num) : Value → Hp → Items → Prop := fun v H' L' => (∃ p, L' = p ++ L) ∧ H0.le H' ∧ radomeref01_Two.out r H' v
structure radomeref01_Two.Hs where
 l0 : Int → Bool → (List Int) → Int → Option radomeref01_Num
 l1 : Int → Bool → (List Int) → Int → Option radomeref01_Num
noncomputable def radomeref01_Two.b0 (k : Nat) (h : radomeref01_Two.Hs)  (n : Int) (x_0 : Bool) (x_1 : List Int) (i : Int) : Option radomeref01_Num := if (w64 (i + 30)) ≤ n then ((radomeref01_Of.f k 1073741824).bind fun y10 => (radomeref01_Mul.f k (⟨x_0, x_1⟩ : radomeref01_Num) (⟨y10.f_Neg, y10.f_D⟩ : radomeref01_Num)).bind fun y18 => h.l0 n y18.f_Neg y18.f_D (w64 (i + 30))) else (h.l1 n x_0 x_1 0)
noncomputable def radomeref01_Two.b1 (k : Nat) (h : radomeref01_Two.Hs)  (n : Int) (x_0 : Bool) (x_1 : List Int) (i : Int) : Option radomeref01_Num := if i < (Int.tmod n 30) then ((radomeref01_Add.f k (⟨x_0, x_1⟩ : radomeref01_Num) (⟨x_0, x_1⟩ : radomeref01_Num)).bind fun y25 => h.l1 n y25.f_Neg y25.f_D (w64 (i + 1))) else (some ((⟨x_0, x_1⟩ : radomeref01_Num)))
noncomputable def radomeref01_Two.hs : Nat → radomeref01_Two.Hs
 | 0 => ⟨fun _ _ _ _ => none, fun _ _ _ _ => none⟩
 | k + 1 => ⟨fun x0 x1 x2 x3 => radomeref01_Two.b0 k (radomeref01_Two.hs k) x0 x1 x2 x3, fun x0 x1 x2 x3 => radomeref01_Two.b1 k (radomeref01_Two.hs k) x0 x1 x2 x3⟩
noncomputable def radomeref01_Two.f (k : Nat) (n : Int) : Option radomeref01_Num := (fun h : radomeref01_Two.Hs => (radomeref01_Of.f k 1).bind fun y2 => h.l0 n y2.f_Neg y2.f_D 0) (radomeref01_Two.hs k)
structure radomeref01_Two.LE (h h' : radomeref01_Two.Hs) : Prop where
 l0 : ∀ y0 y1 y2 y3, LeO (h.l0 y0 y1 y2 y3) (h'.l0 y0 y1 y2 y3)
 l1 : ∀ y0 y1 y2 y3, LeO (h.l1 y0 y1 y2 y3) (h'.l1 y0 y1 y2 y3)
theorem radomeref01_Two.b0_mono {k : Nat} {h h' : radomeref01_Two.Hs} (hl : radomeref01_Two.LE h h') : ∀ y0 y1 y2 y3, LeO (radomeref01_Two.b0 k h y0 y1 y2 y3) (radomeref01_Two.b0 (k + 1) h' y0 y1 y2 y3) := fun _ _ _ _ => (LeO.ite (LeO.bind (radomeref01_Of.mono k _) fun _ => LeO.bind (radomeref01_Mul.mono k _ _) fun _ => hl.l0 _ _ _ _) (hl.l1 _ _ _ _))
theorem radomeref01_Two.b1_mono {k : Nat} {h h' : radomeref01_Two.Hs} (hl : radomeref01_Two.LE h h') : ∀ y0 y1 y2 y3, LeO (radomeref01_Two.b1 k h y0 y1 y2 y3) (radomeref01_Two.b1 (k + 1) h' y0 y1 y2 y3) := fun _ _ _ _ => (LeO.ite (LeO.bind (radomeref01_Add.mono k _ _) fun _ => hl.l1 _ _ _ _) (LeO.refl _))
theorem radomeref01_Two.hs_mono : ∀ k, radomeref01_Two.LE (radomeref01_Two.hs k) (radomeref01_Two.hs (k + 1))
 | 0 => ⟨fun _ _ _ _ => LeO.none _, fun _ _ _ _ => LeO.none _⟩
 | k + 1 => ⟨radomeref01_Two.b0_mono (k := k) (radomeref01_Two.hs_mono k), radomeref01_Two.b1_mono (k := k) (radomeref01_Two.hs_mono k)⟩
theorem radomeref01_Two.mono : ∀ k y0, LeO (radomeref01_Two.f k y0) (radomeref01_Two.f (k + 1) y0) := fun k _ => have hl := radomeref01_Two.hs_mono k; by unfold radomeref01_Two.f; exact (LeO.bind (radomeref01_Of.mono k _) fun _ => hl.l0 _ _ _ _)
noncomputable def radomeref01_Two.Kl0 : List Item := .code (lopB (blkB (seqR (seqL (seqR (seqR radomeref01_Two.C)))))) :: .inLoop (lopB (blkB (seqR (seqL (seqR (seqR radomeref01_Two.C)))))) :: .inBlock 0 :: .code (seqR (seqR (seqR radomeref01_Two.C))) :: []
noncomputable def radomeref01_Two.Kl1 : List Item := .code (lopB (blkB (seqR (seqL (seqR (seqR (seqR radomeref01_Two.C))))))) :: .inLoop (lopB (blkB (seqR (seqL (seqR (seqR (seqR radomeref01_Two.C))))))) :: .inBlock 2 :: .code (seqR (seqR (seqR (seqR radomeref01_Two.C)))) :: []
structure radomeref01_Two.OK (h : radomeref01_Two.Hs) : Prop where
 l0 : ∀ {H0 H : Hp} {L : Items} {r : radomeref01_Num} {jk_ : Nat → Value} {n : Int} {x_0 : Bool} {x_1 : List Int} {i : Int} {v_x_1 : Value} {b_t2 : Nat} {b_x : Nat} (_ : H0.le H) (_he : h.l0 n x_0 x_1 i = some r) (_h_x_1 : Ro (Kd.int .i64) H v_x_1 x_1), Wp Tryd.prog 45 26 radomeref01_Two.Kl0 (upd (upd (upd (upd jk_ 0 (.int .i64 n)) 2 (.pointer (some ⟨b_t2, 0, none⟩))) 3 (.pointer (some ⟨b_x, 0, none⟩))) 4 (.int .i64 i)) H (some (b_x, .cells ⟨[.bool x_0, v_x_1]⟩ 43 (0, 0)) :: some (b_t2, .cells ⟨[.bool false, .slice none 0 0]⟩ 43 (0, 0)) :: L) (radomeref01_Two.R H0 L r)
 l1 : ∀ {H0 H : Hp} {L : Items} {r : radomeref01_Num} {jk_ : Nat → Value} {n : Int} {x_0 : Bool} {x_1 : List Int} {i : Int} {v_x_1 : Value} {b_t2 : Nat} {b_x : Nat} (_ : H0.le H) (_he : h.l1 n x_0 x_1 i = some r) (_h_x_1 : Ro (Kd.int .i64) H v_x_1 x_1), Wp Tryd.prog 45 26 radomeref01_Two.Kl1 (upd (upd (upd (upd jk_ 0 (.int .i64 n)) 2 (.pointer (some ⟨b_t2, 0, none⟩))) 3 (.pointer (some ⟨b_x, 0, none⟩))) 5 (.int .i64 i)) H (some (b_x, .cells ⟨[.bool x_0, v_x_1]⟩ 43 (0, 0)) :: some (b_t2, .cells ⟨[.bool false, .slice none 0 0]⟩ 43 (0, 0)) :: L) (radomeref01_Two.R H0 L r)
set_option maxRecDepth 100000 in
set_option maxHeartbeats 2000000 in
theorem radomeref01_Two.b0_ok {k : Nat} {h : radomeref01_Two.Hs} (hh : radomeref01_Two.OK h) {H0 H : Hp} {L : Items} {r : radomeref01_Num} {jk_ : Nat → Value} {n : Int} {x_0 : Bool} {x_1 : List Int} {i : Int} {v_x_1 : Value} {b_t2 : Nat} {b_x : Nat} (hle : H0.le H) (he : radomeref01_Two.b0 k h n x_0 x_1 i = some r) (h_x_1 : Ro (Kd.int .i64) H v_x_1 x_1) : Wp Tryd.prog 45 26 radomeref01_Two.Kl0 (upd (upd (upd (upd jk_ 0 (.int .i64 n)) 2 (.pointer (some ⟨b_t2, 0, none⟩))) 3 (.pointer (some ⟨b_x, 0, none⟩))) 4 (.int .i64 i)) H (some (b_x, .cells ⟨[.bool x_0, v_x_1]⟩ 43 (0, 0)) :: some (b_t2, .cells ⟨[.bool false, .slice none 0 0]⟩ 43 (0, 0)) :: L) (radomeref01_Two.R H0 L r) := by
 unfold radomeref01_Two.b0 at he
 unfold radomeref01_Two.Kl0
 refine w_seq ?_
 refine w_seq ?_
 refine w_region rfl ?_
 refine w_d rfl (d_move (v := .int .i64 i) rfl) ?_
 refine w_d rfl (d_add (c := w64 (i + 30)) rfl rfl rfl) ?_
 refine w_d rfl (d_move (v := .int .i64 n) rfl) ?_
 refine w_d rfl (d_leq rfl rfl) ?_
 refine w_done ?_
 rcases its he with ⟨c9, he⟩ | ⟨c9, he⟩
 ·
  refine w_then rfl (decide_eq_true c9) ?_
  refine w_skip ?_
  refine w_seq ?_
  refine w_block ?_
  obtain ⟨y10, hy11, he⟩ := Option.bind_eq_some_iff.1 he
  refine w_drawn (p := 2) (tl := [2, 3]) [[], []] [some 13, some 14] (fctF [.is (.agg ⟨[.bool x_0, v_x_1]⟩), .of (radomeref01_Of.out y10) (radomeref01_Of.out_mono _)]) (fun m_ => some (b_x, .cells ⟨[.bool x_0, v_x_1]⟩ 43 (0, 0)) :: some (b_t2, .cells ⟨[.bool false, .slice none 0 0]⟩ 43 (0, 0)) :: L) (fun _ => none) mixed (by kernel_rfl) (by kernel_rfl) rfl (fct_mono (by kernel_rfl)) ⟨(by intro H' m_ hH hm_ hu_; refine depK_nil ?_; exact s_d (m_ 0) rfl (d_loado (v := .agg ⟨[.bool x_0, v_x_1]⟩) ty43 rfl .here rfl rfl rfl rfl) (by exact rfl) rfl), (by intro H' m_ hH hm_ hu_; refine depK_nil ?_; exact s_k (m_ 1) rfl (o_call co22 (vs := [.int .i64 1073741824]) rfl (radomeref01_Of.calls k hy11)) rfl (by rintro v_ H_ _ ⟨rfl, e_, h_⟩; exact ⟨rfl, e_, h_⟩)), trivial⟩ ?_
  intro H16 e17
  rintro _ _ rfl _ _ ⟨v14, rfl, h15⟩
  obtain ⟨y18, hy19, he⟩ := Option.bind_eq_some_iff.1 he
  refine w_a rfl (o_call co44 (vs := [.agg ⟨[.bool x_0, v_x_1]⟩, .agg ⟨[.bool y10.f_Neg, v14]⟩]) rfl (radomeref01_Mul.calls k (a := (⟨x_0, x_1⟩ : radomeref01_Num)) (b := (⟨y10.f_Neg, y10.f_D⟩ : radomeref01_Num)) hy19 (h_x_1.mono e17) h15)) ?_
  rintro _ H20 _ ⟨rfl, e21, ⟨v22, rfl, h23⟩⟩
  refine w_a0 rfl (o_store (v := .agg ⟨[.bool y18.f_Neg, v22]⟩) sz43 rfl rfl rfl rfl (one_cons rfl (one_cons (h23.one) one_nil)) .here (.here (.here .done))) ?_
  rintro _ _ _ ⟨rfl, rfl, rfl⟩
  refine w_done ?_
  refine w_inBlock ?_
  refine w_region rfl ?_
  refine w_d rfl (d_move (v := .int .i64 i) rfl) ?_
  refine w_d rfl (d_add (c := w64 (i + 30)) rfl rfl rfl) ?_
  refine w_d rfl (d_assign (v := .int .i64 (w64 (i + 30))) rfl) ?_
  refine w_done ?_
  refine w_inLoop ?_
  refine w_sl 0 (.int .i64 n) rfl ?_
  refine w_sl 2 (.pointer (some ⟨b_t2, 0, none⟩)) rfl ?_
  refine w_sl 3 (.pointer (some ⟨b_x, 0, none⟩)) rfl ?_
  refine w_sl 4 (.int .i64 (w64 (i + 30))) rfl ?_
  exact hh.l0 (hle.trans (e17.trans e21)) he h23
 ·
  refine w_else rfl (decide_eq_false c9) ?_
  refine w_exit rfl ?_
  refine w_seq ?_
  refine w_seq ?_
  refine w_region rfl ?_
  refine w_d rfl (d_assign (v := .int .i64 0) rfl) ?_
  refine w_done ?_
  refine w_block ?_
  refine w_loop ?_
  refine w_sl 0 (.int .i64 n) rfl ?_
  refine w_sl 2 (.pointer (some ⟨b_t2, 0, none⟩)) rfl ?_
  refine w_sl 3 (.pointer (some ⟨b_x, 0, none⟩)) rfl ?_
  refine w_sl 5 (.int .i64 0) rfl ?_
  exact hh.l1 hle he h_x_1
set_option maxRecDepth 100000 in
set_option maxHeartbeats 2000000 in
theorem radomeref01_Two.b1_ok {k : Nat} {h : radomeref01_Two.Hs} (hh : radomeref01_Two.OK h) {H0 H : Hp} {L : Items} {r : radomeref01_Num} {jk_ : Nat → Value} {n : Int} {x_0 : Bool} {x_1 : List Int} {i : Int} {v_x_1 : Value} {b_t2 : Nat} {b_x : Nat} (hle : H0.le H) (he : radomeref01_Two.b1 k h n x_0 x_1 i = some r) (h_x_1 : Ro (Kd.int .i64) H v_x_1 x_1) : Wp Tryd.prog 45 26 radomeref01_Two.Kl1 (upd (upd (upd (upd jk_ 0 (.int .i64 n)) 2 (.pointer (some ⟨b_t2, 0, none⟩))) 3 (.pointer (some ⟨b_x, 0, none⟩))) 5 (.int .i64 i)) H (some (b_x, .cells ⟨[.bool x_0, v_x_1]⟩ 43 (0, 0)) :: some (b_t2, .cells ⟨[.bool false, .slice none 0 0]⟩ 43 (0, 0)) :: L) (radomeref01_Two.R H0 L r) := by
 unfold radomeref01_Two.b1 at he
 unfold radomeref01_Two.Kl1
 refine w_seq ?_
 refine w_seq ?_
 refine w_region rfl ?_
 refine w_d rfl (d_move (v := .int .i64 i) rfl) ?_
 refine w_d rfl (d_move (v := .int .i64 n) rfl) ?_
 refine w_d rfl (d_rem rfl rfl (by decide)) ?_
 refine w_d rfl (d_lss rfl rfl) ?_
 refine w_done ?_
 rcases its he with ⟨c24, he⟩ | ⟨c24, he⟩
 ·
  refine w_then rfl (decide_eq_true c24) ?_
  refine w_skip ?_
  refine w_seq ?_
  refine w_block ?_
  refine w_region rfl ?_
  refine w_d rfl (d_loado (v := .agg ⟨[.bool x_0, v_x_1]⟩) ty43 rfl .here rfl rfl rfl rfl) ?_
  refine w_d rfl (d_loado (v := .agg ⟨[.bool x_0, v_x_1]⟩) ty43 rfl .here rfl rfl rfl rfl) ?_
  obtain ⟨y25, hy26, he⟩ := Option.bind_eq_some_iff.1 he
  refine w_a rfl (o_call co56 (vs := [.agg ⟨[.bool x_0, v_x_1]⟩, .agg ⟨[.bool x_0, v_x_1]⟩]) rfl (radomeref01_Add.calls k (a := (⟨x_0, x_1⟩ : radomeref01_Num)) (b := (⟨x_0, x_1⟩ : radomeref01_Num)) hy26 h_x_1 h_x_1)) ?_
  rintro _ H27 _ ⟨rfl, e28, ⟨v29, rfl, h30⟩⟩
  refine w_a0 rfl (o_store (v := .agg ⟨[.bool y25.f_Neg, v29]⟩) sz43 rfl rfl rfl rfl (one_cons rfl (one_cons (h30.one) one_nil)) .here (.here (.here .done))) ?_
  rintro _ _ _ ⟨rfl, rfl, rfl⟩
  refine w_done ?_
  refine w_inBlock ?_
  refine w_region rfl ?_
  refine w_d rfl (d_move (v := .int .i64 i) rfl) ?_
  refine w_d rfl (d_add (c := w64 (i + 1)) rfl rfl rfl) ?_
  refine w_d rfl (d_assign (v := .int .i64 (w64 (i + 1))) rfl) ?_
  refine w_done ?_
  refine w_inLoop ?_
  refine w_sl 0 (.int .i64 n) rfl ?_
  refine w_sl 2 (.pointer (some ⟨b_t2, 0, none⟩)) rfl ?_
  refine w_sl 3 (.pointer (some ⟨b_x, 0, none⟩)) rfl ?_
  refine w_sl 5 (.int .i64 (w64 (i + 1))) rfl ?_
  exact hh.l1 (hle.trans e28) he h30
 ·
  refine w_else rfl (decide_eq_false c24) ?_
  refine w_exit rfl ?_
  refine w_seq ?_
  refine w_region rfl ?_
  refine w_d rfl (d_loado (v := .agg ⟨[.bool x_0, v_x_1]⟩) ty43 rfl .here rfl rfl rfl rfl) ?_
  refine w_a0 rfl (o_store (v := .agg ⟨[.bool x_0, v_x_1]⟩) sz43 rfl rfl rfl rfl (one_cons rfl (one_cons (h_x_1.one) one_nil)) (.there .here) (.here (.here .done))) ?_
  rintro _ _ _ ⟨rfl, rfl, rfl⟩
  refine w_done ?_
  obtain rfl := Option.some.inj he
  refine w_return fn_45 rs_45 (.box (v := .agg ⟨[.bool x_0, v_x_1]⟩) rfl ty43 rfl rfl (.there .here) rfl .nil) ?_
  exact ⟨⟨[_, _], rfl⟩, hle, ⟨v_x_1, rfl, h_x_1⟩⟩
theorem radomeref01_Two.ok : ∀ k, radomeref01_Two.OK (radomeref01_Two.hs k)
 | 0 => ⟨(by intros; exact nomatch (show none = some _ from by assumption)), (by intros; exact nomatch (show none = some _ from by assumption))⟩
 | k + 1 => ⟨radomeref01_Two.b0_ok (k := k) (radomeref01_Two.ok k), radomeref01_Two.b1_ok (k := k) (radomeref01_Two.ok k)⟩
set_option maxRecDepth 100000 in
set_option maxHeartbeats 2000000 in
theorem radomeref01_Two.calls (k : Nat) {H : Hp} {L : Items} {n : Int} {r : radomeref01_Num} (he : radomeref01_Two.f k n = some r) : Ct Tryd.prog 45 ⟨[.int .i64 n]⟩ H L (fun v H' L' => L = L' ∧ H.le H' ∧ radomeref01_Two.out r H' v) := by
 refine ct_out (O := radomeref01_Two.out r) ?_
 have hle : H.le H := .refl _
 have hh := radomeref01_Two.ok k
 unfold radomeref01_Two.f at he
 refine ct_enter (args := [.int .i64 n]) fn_45 rfl nt_45 rfl ?_
 refine w_seq ?_
 refine w_region rfl ?_
 refine w_a rfl (o_alloc zr43 rfl) ?_
 rintro _ _ _ ⟨b1, rfl, rfl, rfl⟩
 refine w_done ?_
 refine w_seq ?_
 refine w_region rfl ?_
 obtain ⟨y2, hy3, he⟩ := Option.bind_eq_some_iff.1 he
 refine w_a rfl (o_call co22 (vs := [.int .i64 1]) rfl (radomeref01_Of.calls k hy3)) ?_
 rintro _ H4 _ ⟨rfl, e5, ⟨v6, rfl, h7⟩⟩
 refine w_a rfl (o_alloc zr43 rfl) ?_
 rintro _ _ _ ⟨b8, rfl, rfl, rfl⟩
 refine w_a0 rfl (o_store (v := .agg ⟨[.bool y2.f_Neg, v6]⟩) sz43 rfl rfl rfl rfl (one_cons rfl (one_cons (h7.one) one_nil)) .here (.here (.here .done))) ?_
 rintro _ _ _ ⟨rfl, rfl, rfl⟩
 refine w_done ?_
 refine w_seq ?_
 refine w_seq ?_
 refine w_region rfl ?_
 refine w_d rfl (d_assign (v := .int .i64 0) rfl) ?_
 refine w_done ?_
 refine w_block ?_
 refine w_loop ?_
 refine w_sl 0 (.int .i64 n) rfl ?_
 refine w_sl 2 (.pointer (some ⟨b1, 0, none⟩)) rfl ?_
 refine w_sl 3 (.pointer (some ⟨b8, 0, none⟩)) rfl ?_
 refine w_sl 4 (.int .i64 0) rfl ?_
 exact hh.l0 (hle.trans e5) he h7
/-! ### radome/radomeref01.Neg -/
noncomputable def radomeref01_Neg.C : Code := (Tryd.f68.body).getD .skip
def radomeref01_Neg.out (r : radomeref01_Num) (H : Hp) (v : Value) : Prop := ∃ v0, v = .agg ⟨[.bool r.f_Neg, v0]⟩ ∧ Ro (Kd.int .i64) H v0 r.f_D
theorem radomeref01_Neg.out_mono (r : radomeref01_Num) {H H' : Hp} {v : Value} (hle : H.le H') (h : radomeref01_Neg.out r H v) : radomeref01_Neg.out r H' v := by
 obtain ⟨v0, rfl, h0⟩ := h; exact ⟨v0, rfl, h0.mono hle⟩
abbrev radomeref01_Neg.R (H0 : Hp) (L : Items) (r : radomeref01_Num) : Value → Hp → Items → Prop := fun v H' L' => (∃ p, L' = p ++ L) ∧ H0.le H' ∧ radomeref01_Neg.out r H' v
noncomputable def radomeref01_Neg.f (k : Nat) (a : radomeref01_Num) : Option radomeref01_Num := (radomeref01_num.f k (!a.f_Neg) a.f_D).bind fun y3 => some ((⟨y3.f_Neg, y3.f_D⟩ : radomeref01_Num))
theorem radomeref01_Neg.mono : ∀ k y0, LeO (radomeref01_Neg.f k y0) (radomeref01_Neg.f (k + 1) y0) := fun k _ => by unfold radomeref01_Neg.f; exact (LeO.bind (radomeref01_num.mono k _ _) fun _ => LeO.refl _)
set_option maxRecDepth 100000 in
set_option maxHeartbeats 2000000 in
theorem radomeref01_Neg.calls (k : Nat) {H : Hp} {L : Items} {a : radomeref01_Num} {v0_a : Value} {r : radomeref01_Num} (he : radomeref01_Neg.f k a = some r) (h0_a : Ro (Kd.int .i64) H v0_a a.f_D) : Ct Tryd.prog 68 ⟨[.agg ⟨[.bool a.f_Neg, v0_a]⟩]⟩ H L (fun v H' L' => L = L' ∧ H.le H' ∧ radomeref01_Neg.out r H' v) := by
 refine ct_out (O := radomeref01_Neg.out r) ?_
 have hle : H.le H := .refl _
 unfold radomeref01_Neg.f at he
 refine ct_enter (args := [.agg ⟨[.bool a.f_Neg, v0_a]⟩]) fn_68 rfl nt_68 rfl ?_
 refine w_seq ?_
 refine w_region rfl ?_
 refine w_a rfl (o_box (v := .agg ⟨[.bool a.f_Neg, v0_a]⟩) rfl rfl) ?_
 rintro _ _ _ ⟨b1, rfl, rfl, rfl⟩
 refine w_a rfl (o_alloc zr43 rfl) ?_
 rintro _ _ _ ⟨b2, rfl, rfl, rfl⟩
 refine w_done ?_
 refine w_seq ?_
 refine w_region rfl ?_
 refine w_d rfl (d_fld (o' := 0) Tryd.underlying43 rfl sz4 rfl rfl rfl) ?_
 refine w_d rfl (d_loado (v := .bool a.f_Neg) ty4 rfl (.there .here) rfl rfl rfl rfl) ?_
 refine w_d rfl (d_not (b := a.f_Neg) rfl) ?_
 refine w_d rfl (d_fld (o' := 1) Tryd.underlying43 rfl sz41 rfl rfl rfl) ?_
 refine w_d rfl (d_loado (v := v0_a) ty41 rfl (.there .here) rfl rfl rfl rfl) ?_
 obtain ⟨y3, hy4, he⟩ := Option.bind_eq_some_iff.1 he
 refine w_a rfl (o_call co57 (vs := [.bool (!a.f_Neg), v0_a]) rfl (radomeref01_num.calls k hy4 h0_a)) ?_
 rintro _ H5 _ ⟨rfl, e6, ⟨v7, rfl, h8⟩⟩
 refine w_a0 rfl (o_store (v := .agg ⟨[.bool y3.f_Neg, v7]⟩) sz43 rfl rfl rfl rfl (one_cons rfl (one_cons (h8.one) one_nil)) .here (.here (.here .done))) ?_
 rintro _ _ _ ⟨rfl, rfl, rfl⟩
 refine w_done ?_
 obtain rfl := Option.some.inj he
 refine w_return fn_68 rs_68 (.box (v := .agg ⟨[.bool y3.f_Neg, v7]⟩) rfl ty43 rfl rfl .here rfl .nil) ?_
 exact ⟨⟨[_, _], rfl⟩, hle.trans e6, ⟨v7, rfl, h8⟩⟩
/-! ### radome/radomeref01.Sub -/
noncomputable def radomeref01_Sub.C : Code := (Tryd.f66.body).getD .skip
def radomeref01_Sub.out (r : radomeref01_Num) (H : Hp) (v : Value) : Prop := ∃ v0, v = .agg ⟨[.bool r.f_Neg, v0]⟩ ∧ Ro (Kd.int .i64) H v0 r.f_D
theorem radomeref01_Sub.out_mono (r : radomeref01_Num) {H H' : Hp} {v : Value} (hle : H.le H') (h : radomeref01_Sub.out r H v) : radomeref01_Sub.out r H' v := by
 obtain ⟨v0, rfl, h0⟩ := h; exact ⟨v0, rfl, h0.mono hle⟩
abbrev radomeref01_Sub.R (H0 : Hp) (L : Items) (r : radomeref01_Num) : Value → Hp → Items → Prop := fun v H' L' => (∃ p, L' = p ++ L) ∧ H0.le H' ∧ radomeref01_Sub.out r H' v
noncomputable def radomeref01_Sub.f (k : Nat) (a : radomeref01_Num) (b : radomeref01_Num) : Option radomeref01_Num := (radomeref01_Neg.f k (⟨b.f_Neg, b.f_D⟩ : radomeref01_Num)).bind fun y4 => (radomeref01_Add.f k (⟨a.f_Neg, a.f_D⟩ : radomeref01_Num) (⟨y4.f_Neg, y4.f_D⟩ : radomeref01_Num)).bind fun y12 => some ((⟨y12.f_Neg, y12.f_D⟩ : radomeref01_Num))
theorem radomeref01_Sub.mono : ∀ k y0 y1, LeO (radomeref01_Sub.f k y0 y1) (radomeref01_Sub.f (k + 1) y0 y1) := fun k _ _ => by unfold radomeref01_Sub.f; exact (LeO.bind (radomeref01_Neg.mono k _) fun _ => LeO.bind (radomeref01_Add.mono k _ _) fun _ => LeO.refl _)
set_option maxRecDepth 100000 in
set_option maxHeartbeats 2000000 in
theorem radomeref01_Sub.calls (k : Nat) {H : Hp} {L : Items} {a : radomeref01_Num} {b : radomeref01_Num} {v0_a : Value} {v1_b : Value} {r : radomeref01_Num} (he : radomeref01_Sub.f k a b = some r) (h0_a : Ro (Kd.int .i64) H v0_a a.f_D) (h1_b : Ro (Kd.int .i64) H v1_b b.f_D) : Ct Tryd.prog 66 ⟨[.agg ⟨[.bool a.f_Neg, v0_a]⟩, .agg ⟨[.bool b.f_Neg, v1_b]⟩]⟩ H L (fun v H' L' => L = L' ∧ H.le H' ∧ radomeref01_Sub.out r H' v) := by
 refine ct_out (O := radomeref01_Sub.out r) ?_
 have hle : H.le H := .refl _
 unfold radomeref01_Sub.f at he
 refine ct_enter (args := [.agg ⟨[.bool a.f_Neg, v0_a]⟩, .agg ⟨[.bool b.f_Neg, v1_b]⟩]) fn_66 rfl nt_66 rfl ?_
 refine w_seq ?_
 refine w_region rfl ?_
 refine w_a rfl (o_box (v := .agg ⟨[.bool a.f_Neg, v0_a]⟩) rfl rfl) ?_
 rintro _ _ _ ⟨b1, rfl, rfl, rfl⟩
 refine w_a rfl (o_box (v := .agg ⟨[.bool b.f_Neg, v1_b]⟩) rfl rfl) ?_
 rintro _ _ _ ⟨b2, rfl, rfl, rfl⟩
 refine w_a rfl (o_alloc zr43 rfl) ?_
 rintro _ _ _ ⟨b3, rfl, rfl, rfl⟩
 refine w_done ?_
 refine w_seq ?_
 obtain ⟨y4, hy5, he⟩ := Option.bind_eq_some_iff.1 he
 refine w_drawn (p := 3) (tl := [3, 4]) [[], [], [(1, some 6)]] [some 5, some 6, some 7] (fctF [.is (.agg ⟨[.bool a.f_Neg, v0_a]⟩), .is (.agg ⟨[.bool b.f_Neg, v1_b]⟩), .of (radomeref01_Neg.out y4) (radomeref01_Neg.out_mono _)]) (fun m_ => some (b3, .cells ⟨[.bool false, .slice none 0 0]⟩ 43 (0, 0)) :: some (b2, .cells ⟨[.bool b.f_Neg, v1_b]⟩ 43 (0, 0)) :: some (b1, .cells ⟨[.bool a.f_Neg, v0_a]⟩ 43 (0, 0)) :: L) (fun _ => none) mixed (by kernel_rfl) (by kernel_rfl) rfl (fct_mono (by kernel_rfl)) ⟨(by intro H' m_ hH hm_ hu_; refine depK_nil ?_; exact s_d (m_ 0) rfl (d_loado (v := .agg ⟨[.bool a.f_Neg, v0_a]⟩) ty43 rfl (.there (.there .here)) rfl rfl rfl rfl) (by exact rfl) rfl), (by intro H' m_ hH hm_ hu_; refine depK_nil ?_; exact s_d (m_ 1) rfl (d_loado (v := .agg ⟨[.bool b.f_Neg, v1_b]⟩) ty43 rfl (.there .here) rfl rfl rfl rfl) (by exact rfl) rfl), (by intro H' m_ hH hm_ hu_; rintro _ rfl; refine depK_nil ?_; exact s_k (m_ 2) rfl (o_call co68 (vs := [.agg ⟨[.bool b.f_Neg, v1_b]⟩]) rfl (radomeref01_Neg.calls k (a := (⟨b.f_Neg, b.f_D⟩ : radomeref01_Num)) hy5 (h1_b.mono hH))) rfl (by rintro v_ H_ _ ⟨rfl, e_, h_⟩; exact ⟨rfl, e_, h_⟩)), trivial⟩ ?_
 intro H10 e11
 rintro _ _ rfl _ _ rfl _ _ ⟨v8, rfl, h9⟩
 obtain ⟨y12, hy13, he⟩ := Option.bind_eq_some_iff.1 he
 refine w_a rfl (o_call co56 (vs := [.agg ⟨[.bool a.f_Neg, v0_a]⟩, .agg ⟨[.bool y4.f_Neg, v8]⟩]) rfl (radomeref01_Add.calls k (a := (⟨a.f_Neg, a.f_D⟩ : radomeref01_Num)) (b := (⟨y4.f_Neg, y4.f_D⟩ : radomeref01_Num)) hy13 (h0_a.mono e11) h9)) ?_
 rintro _ H14 _ ⟨rfl, e15, ⟨v16, rfl, h17⟩⟩
 refine w_a0 rfl (o_store (v := .agg ⟨[.bool y12.f_Neg, v16]⟩) sz43 rfl rfl rfl rfl (one_cons rfl (one_cons (h17.one) one_nil)) .here (.here (.here .done))) ?_
 rintro _ _ _ ⟨rfl, rfl, rfl⟩
 refine w_done ?_
 obtain rfl := Option.some.inj he
 refine w_return fn_66 rs_66 (.box (v := .agg ⟨[.bool y12.f_Neg, v16]⟩) rfl ty43 rfl rfl .here rfl .nil) ?_
 exact ⟨⟨[_, _, _], rfl⟩, hle.trans (e11.trans e15), ⟨v16, rfl, h17⟩⟩
/-! ### radome/radomeref01.Div -/
noncomputable def radomeref01_Div.C : Code := (Tryd.f54.body).getD .skip
def radomeref01_Div.out (r : radomeref01_Num × radomeref01_Num) (H : Hp) (v : Value) : Prop := ∃ v0, ∃ v1, v = .tuple ⟨[.agg ⟨[.bool r.1.f_Neg, v0]⟩, .agg ⟨[.bool r.2.f_Neg, v1]⟩]⟩ ∧ Ro (Kd.int .i64) H v0 r.1.f_D ∧ Ro (Kd.int .i64) H v1 r.2.f_D
theorem radomeref01_Div.out_mono (r : radomeref01_Num × radomeref01_Num) {H H' : Hp} {v : Value} (hle : H.le H') (h : radomeref01_Div.out r H v) : radomeref01_Div.out r H' v := by
 obtain ⟨v0, v1, rfl, h0, h1⟩ := h; exact ⟨v0, v1, rfl, h0.mono hle, h1.mono hle⟩
abbrev radomeref01_Div.R (H0 : Hp) (L : Items) (r : radomeref01_Num × radomeref01_Num) : Value → Hp → Items → Prop := fun v H' L' => (∃ p, L' = p ++ L) ∧ H0.le H' ∧ radomeref01_Div.out r H' v
structure radomeref01_Div.Hs where
 l0 : Bool → (List Int) → Bool → (List Int) → (List Int) → (List Int) → Int → Option (radomeref01_Num × radomeref01_Num)
 l1 : Bool → (List Int) → Bool → (List Int) → (List Int) → (List Int) → Int → Option (radomeref01_Num × radomeref01_Num)
noncomputable def radomeref01_Div.b0 (k : Nat) (h : radomeref01_Div.Hs)  (a_0 : Bool) (a_1 : List Int) (b_0 : Bool) (b_1 : List Int) (rest : List Int) (q : List Int) (i : Int) : Option (radomeref01_Num × radomeref01_Num) := if 0 ≤ i then (if 0 ≤ i ∧ i < (a_1.length : Int) then (if [rd a_1 i].length + rest.length ≤ 17592186044288 then ((radomeref01_trim.f k ([rd a_1 i] ++ rest)).bind fun y21 => h.l1 a_0 a_1 b_0 b_1 y21 q i) else none) else none) else ((radomeref01_trim.f k q).bind fun y30 => (radomeref01_num.f k (!(a_0 == b_0)) y30).bind fun y36 => (radomeref01_num.f k false rest).bind fun y45 => if (a_0 && (decide (0 < (rest.length : Int)))) = true then ((radomeref01_minus.f k b_1 rest).bind fun y56 => (radomeref01_num.f k false y56).bind fun y62 => if b_0 = true then ((radomeref01_Of.f k 1).bind fun y69 => (radomeref01_Add.f k (⟨y36.f_Neg, y36.f_D⟩ : radomeref01_Num) (⟨y69.f_Neg, y69.f_D⟩ : radomeref01_Num)).bind fun y77 => some ((⟨y77.f_Neg, y77.f_D⟩ : radomeref01_Num), (⟨y62.f_Neg, y62.f_D⟩ : radomeref01_Num))) else ((radomeref01_Of.f k 1).bind fun y85 => (radomeref01_Sub.f k (⟨y36.f_Neg, y36.f_D⟩ : radomeref01_Num) (⟨y85.f_Neg, y85.f_D⟩ : radomeref01_Num)).bind fun y93 => some ((⟨y93.f_Neg, y93.f_D⟩ : radomeref01_Num), (⟨y62.f_Neg, y62.f_D⟩ : radomeref01_Num)))) else (some ((⟨y36.f_Neg, y36.f_D⟩ : radomeref01_Num), (⟨y45.f_Neg, y45.f_D⟩ : radomeref01_Num))))
noncomputable def radomeref01_Div.b1 (k : Nat) (h : radomeref01_Div.Hs)  (a_0 : Bool) (a_1 : List Int) (b_0 : Bool) (b_1 : List Int) (rest : List Int) (q : List Int) (i : Int) : Option (radomeref01_Num × radomeref01_Num) := (radomeref01_Less.f k rest b_1).bind fun y103 => if (!y103) = true then ((radomeref01_minus.f k rest b_1).bind fun y108 => if 0 ≤ i ∧ i < (q.length : Int) then (if 0 ≤ i ∧ i < (q.length : Int) then (h.l1 a_0 a_1 b_0 b_1 y108 (q.set (i).toNat (w64 ((rd q i) + 1))) i) else none) else none) else (h.l0 a_0 a_1 b_0 b_1 rest q (w64 (i - 1)))
noncomputable def radomeref01_Div.hs : Nat → radomeref01_Div.Hs
 | 0 => ⟨fun _ _ _ _ _ _ _ => none, fun _ _ _ _ _ _ _ => none⟩
 | k + 1 => ⟨fun x0 x1 x2 x3 x4 x5 x6 => radomeref01_Div.b0 k (radomeref01_Div.hs k) x0 x1 x2 x3 x4 x5 x6, fun x0 x1 x2 x3 x4 x5 x6 => radomeref01_Div.b1 k (radomeref01_Div.hs k) x0 x1 x2 x3 x4 x5 x6⟩
noncomputable def radomeref01_Div.f (k : Nat) (a : radomeref01_Num) (b : radomeref01_Num) : Option (radomeref01_Num × radomeref01_Num) := (fun h : radomeref01_Div.Hs => if 0 ≤ (a.f_D.length : Int) ∧ (a.f_D.length : Int) ≤ 35184372088832 then (h.l0 a.f_Neg a.f_D b.f_Neg b.f_D [] (List.replicate ((a.f_D.length : Int)).toNat 0) (w64 ((a.f_D.length : Int) - 1))) else none) (radomeref01_Div.hs k)
structure radomeref01_Div.LE (h h' : radomeref01_Div.Hs) : Prop where
 l0 : ∀ y0 y1 y2 y3 y4 y5 y6, LeO (h.l0 y0 y1 y2 y3 y4 y5 y6) (h'.l0 y0 y1 y2 y3 y4 y5 y6)
 l1 : ∀ y0 y1 y2 y3 y4 y5 y6, LeO (h.l1 y0 y1 y2 y3 y4 y5 y6) (h'.l1 y0 y1 y2 y3 y4 y5 y6)
theorem radomeref01_Div.b0_mono {k : Nat} {h h' : radomeref01_Div.Hs} (hl : radomeref01_Div.LE h h') : ∀ y0 y1 y2 y3 y4 y5 y6, LeO (radomeref01_Div.b0 k h y0 y1 y2 y3 y4 y5 y6) (radomeref01_Div.b0 (k + 1) h' y0 y1 y2 y3 y4 y5 y6) := fun _ _ _ _ _ _ _ => (LeO.ite (LeO.ite (LeO.ite (LeO.bind (radomeref01_trim.mono k _) fun _ => hl.l1 _ _ _ _ _ _ _) (LeO.refl _)) (LeO.refl _)) (LeO.bind (radomeref01_trim.mono k _) fun _ => LeO.bind (radomeref01_num.mono k _ _) fun _ => LeO.bind (radomeref01_num.mono k _ _) fun _ => LeO.ite (LeO.bind (radomeref01_minus.mono k _ _) fun _ => LeO.bind (radomeref01_num.mono k _ _) fun _ => LeO.ite (LeO.bind (radomeref01_Of.mono k _) fun _ => LeO.bind (radomeref01_Add.mono k _ _) fun _ => LeO.refl _) (LeO.bind (radomeref01_Of.mono k _) fun _ => LeO.bind (radomeref01_Sub.mono k _ _) fun _ => LeO.refl _)) (LeO.refl _)))
theorem radomeref01_Div.b1_mono {k : Nat} {h h' : radomeref01_Div.Hs} (hl : radomeref01_Div.LE h h') : ∀ y0 y1 y2 y3 y4 y5 y6, LeO (radomeref01_Div.b1 k h y0 y1 y2 y3 y4 y5 y6) (radomeref01_Div.b1 (k + 1) h' y0 y1 y2 y3 y4 y5 y6) := fun _ _ _ _ _ _ _ => (LeO.bind (radomeref01_Less.mono k _ _) fun _ => LeO.ite (LeO.bind (radomeref01_minus.mono k _ _) fun _ => LeO.ite (LeO.ite (hl.l1 _ _ _ _ _ _ _) (LeO.refl _)) (LeO.refl _)) (hl.l0 _ _ _ _ _ _ _))
theorem radomeref01_Div.hs_mono : ∀ k, radomeref01_Div.LE (radomeref01_Div.hs k) (radomeref01_Div.hs (k + 1))
 | 0 => ⟨fun _ _ _ _ _ _ _ => LeO.none _, fun _ _ _ _ _ _ _ => LeO.none _⟩
 | k + 1 => ⟨radomeref01_Div.b0_mono (k := k) (radomeref01_Div.hs_mono k), radomeref01_Div.b1_mono (k := k) (radomeref01_Div.hs_mono k)⟩
theorem radomeref01_Div.mono : ∀ k y0 y1, LeO (radomeref01_Div.f k y0 y1) (radomeref01_Div.f (k + 1) y0 y1) := fun k _ _ => have hl := radomeref01_Div.hs_mono k; by unfold radomeref01_Div.f; exact (LeO.ite (hl.l0 _ _ _ _ _ _ _) (LeO.refl _))
noncomputable def radomeref01_Div.Kl0 : List Item := .code (lopB (blkB (seqR (seqL (seqR (seqR (seqR radomeref01_Div.C))))))) :: .inLoop (lopB (blkB (seqR (seqL (seqR (seqR (seqR radomeref01_Div.C))))))) :: .inBlock 0 :: .code (seqR (seqR (seqR (seqR radomeref01_Div.C)))) :: []
noncomputable def radomeref01_Div.Kl1 : List Item := .code (lopB (blkB (seqR (blkB (seqL (seqR (lopB (blkB (seqR (seqL (seqR (seqR (seqR radomeref01_Div.C))))))))))))) :: .inLoop (lopB (blkB (seqR (blkB (seqL (seqR (lopB (blkB (seqR (seqL (seqR (seqR (seqR radomeref01_Div.C))))))))))))) :: .inBlock 2 :: .inBlock 1 :: .code (seqR (seqR (lopB (blkB (seqR (seqL (seqR (seqR (seqR radomeref01_Div.C))))))))) :: .inLoop (lopB (blkB (seqR (seqL (seqR (seqR (seqR radomeref01_Div.C))))))) :: .inBlock 0 :: .code (seqR (seqR (seqR (seqR radomeref01_Div.C)))) :: []
structure radomeref01_Div.OK (h : radomeref01_Div.Hs) : Prop where
 l0 : ∀ {H0 H : Hp} {L : Items} {r : radomeref01_Num × radomeref01_Num} {jk_ : Nat → Value} {a_0 : Bool} {a_1 : List Int} {b_0 : Bool} {b_1 : List Int} {rest : List Int} {q : List Int} {i : Int} {v_a_1 : Value} {v_b_1 : Value} {v_rest : Value} {v_q : Value} {i_q : Item'} {b_a : Nat} {b_b : Nat} {b_t4 : Nat} {b_t5 : Nat} (_ : H0.le H) (_he : h.l0 a_0 a_1 b_0 b_1 rest q i = some r) (_h_a_1 : Ro (Kd.int .i64) H v_a_1 a_1) (_h_b_1 : Ro (Kd.int .i64) H v_b_1 b_1) (_h_rest : Ro (Kd.int .i64) H v_rest rest) (_h_q : Sl (Kd.int .i64) H 3 i_q v_q q), Wp Tryd.prog 54 79 radomeref01_Div.Kl0 (upd (upd (upd (upd (upd (upd (upd jk_ 2 (.pointer (some ⟨b_a, 0, none⟩))) 3 (.pointer (some ⟨b_b, 0, none⟩))) 4 (.pointer (some ⟨b_t4, 0, none⟩))) 5 (.pointer (some ⟨b_t5, 0, none⟩))) 6 (v_rest)) 7 (v_q)) 8 (.int .i64 i)) H (i_q :: some (b_t5, .cells ⟨[.bool false, .slice none 0 0]⟩ 43 (0, 0)) :: some (b_t4, .cells ⟨[.bool false, .slice none 0 0]⟩ 43 (0, 0)) :: some (b_b, .cells ⟨[.bool b_0, v_b_1]⟩ 43 (0, 0)) :: some (b_a, .cells ⟨[.bool a_0, v_a_1]⟩ 43 (0, 0)) :: L) (radomeref01_Div.R H0 L r)
 l1 : ∀ {H0 H : Hp} {L : Items} {r : radomeref01_Num × radomeref01_Num} {jk_ : Nat → Value} {a_0 : Bool} {a_1 : List Int} {b_0 : Bool} {b_1 : List Int} {rest : List Int} {q : List Int} {i : Int} {v_a_1 : Value} {v_b_1 : Value} {v_rest : Value} {v_q : Value} {i_q : Item'} {b_a : Nat} {b_b : Nat} {b_t4 : Nat} {b_t5 : Nat} (_ : H0.le H) (_he : h.l1 a_0 a_1 b_0 b_1 rest q i = some r) (_h_a_1 : Ro (Kd.int .i64) H v_a_1 a_1) (_h_b_1 : Ro (Kd.int .i64) H v_b_1 b_1) (_h_rest : Ro (Kd.int .i64) H v_rest rest) (_h_q : Sl (Kd.int .i64) H 3 i_q v_q q), Wp Tryd.prog 54 79 radomeref01_Div.Kl1 (upd (upd (upd (upd (upd (upd (upd jk_ 2 (.pointer (some ⟨b_a, 0, none⟩))) 3 (.pointer (some ⟨b_b, 0, none⟩))) 4 (.pointer (some ⟨b_t4, 0, none⟩))) 5 (.pointer (some ⟨b_t5, 0, none⟩))) 6 (v_rest)) 7 (v_q)) 8 (.int .i64 i)) H (i_q :: some (b_t5, .cells ⟨[.bool false, .slice none 0 0]⟩ 43 (0, 0)) :: some (b_t4, .cells ⟨[.bool false, .slice none 0 0]⟩ 43 (0, 0)) :: some (b_b, .cells ⟨[.bool b_0, v_b_1]⟩ 43 (0, 0)) :: some (b_a, .cells ⟨[.bool a_0, v_a_1]⟩ 43 (0, 0)) :: L) (radomeref01_Div.R H0 L r)
set_option maxRecDepth 100000 in
set_option maxHeartbeats 2000000 in
theorem radomeref01_Div.b0_ok {k : Nat} {h : radomeref01_Div.Hs} (hh : radomeref01_Div.OK h) {H0 H : Hp} {L : Items} {r : radomeref01_Num × radomeref01_Num} {jk_ : Nat → Value} {a_0 : Bool} {a_1 : List Int} {b_0 : Bool} {b_1 : List Int} {rest : List Int} {q : List Int} {i : Int} {v_a_1 : Value} {v_b_1 : Value} {v_rest : Value} {v_q : Value} {i_q : Item'} {b_a : Nat} {b_b : Nat} {b_t4 : Nat} {b_t5 : Nat} (hle : H0.le H) (he : radomeref01_Div.b0 k h a_0 a_1 b_0 b_1 rest q i = some r) (h_a_1 : Ro (Kd.int .i64) H v_a_1 a_1) (h_b_1 : Ro (Kd.int .i64) H v_b_1 b_1) (h_rest : Ro (Kd.int .i64) H v_rest rest) (h_q : Sl (Kd.int .i64) H 3 i_q v_q q) : Wp Tryd.prog 54 79 radomeref01_Div.Kl0 (upd (upd (upd (upd (upd (upd (upd jk_ 2 (.pointer (some ⟨b_a, 0, none⟩))) 3 (.pointer (some ⟨b_b, 0, none⟩))) 4 (.pointer (some ⟨b_t4, 0, none⟩))) 5 (.pointer (some ⟨b_t5, 0, none⟩))) 6 (v_rest)) 7 (v_q)) 8 (.int .i64 i)) H (i_q :: some (b_t5, .cells ⟨[.bool false, .slice none 0 0]⟩ 43 (0, 0)) :: some (b_t4, .cells ⟨[.bool false, .slice none 0 0]⟩ 43 (0, 0)) :: some (b_b, .cells ⟨[.bool b_0, v_b_1]⟩ 43 (0, 0)) :: some (b_a, .cells ⟨[.bool a_0, v_a_1]⟩ 43 (0, 0)) :: L) (radomeref01_Div.R H0 L r) := by
 unfold radomeref01_Div.b0 at he
 unfold radomeref01_Div.Kl0
 refine w_seq ?_
 refine w_seq ?_
 refine w_region rfl ?_
 refine w_d rfl (d_move (v := .int .i64 i) rfl) ?_
 refine w_d rfl (d_geq rfl rfl) ?_
 refine w_done ?_
 rcases its he with ⟨c9, he⟩ | ⟨c9, he⟩
 ·
  refine w_then rfl (decide_eq_true c9) ?_
  refine w_skip ?_
  refine w_seq ?_
  refine w_block ?_
  refine w_seq ?_
  refine w_region rfl ?_
  refine w_d rfl (d_fld (o' := 1) Tryd.underlying43 rfl sz41 rfl rfl rfl) ?_
  refine w_d rfl (d_loado (v := v_a_1) ty41 rfl (.there (.there (.there (.there .here)))) rfl rfl rfl rfl) ?_
  refine w_d rfl (d_move (v := .int .i64 i) rfl) ?_
  obtain ⟨c10, he⟩ := rq he
  refine w_d rfl (d_index (sz := 1) Tryd.underlying41 sz3 rfl h_a_1.src rfl c10) ?_
  refine w_d rfl (d_ldint ty3 rfl h_a_1.src c10) ?_
  refine w_a rfl (o_buildSlice' (kd := (Kd.int .i64)) (css := [[.int .i64 (rd a_1 i)]]) (xs := [rd a_1 i]) (parts := [(0, .int .i64 (rd a_1 i))]) Tryd.underlying41 ti3 rfl ⟨_, _, rfl, rfl, rfl⟩ ⟨rfl, trivial⟩ rfl (by decide)) ?_
  rintro v11 _ _ ⟨i12, rfl, rfl, h13⟩
  refine w_d rfl (d_move (v := v_rest) rfl) ?_
  obtain ⟨c14, he⟩ := rq he
  refine w_a rfl (o_append' (kd := (Kd.int .i64)) (F := fun z_ => z_ :: i_q :: some (b_t5, .cells ⟨[.bool false, .slice none 0 0]⟩ 43 (0, 0)) :: some (b_t4, .cells ⟨[.bool false, .slice none 0 0]⟩ 43 (0, 0)) :: some (b_b, .cells ⟨[.bool b_0, v_b_1]⟩ 43 (0, 0)) :: some (b_a, .cells ⟨[.bool a_0, v_a_1]⟩ 43 (0, 0)) :: L) Tryd.underlying41 Tryd.underlying41 ti3 rfl (by first | omega | (simp only [List.nil_append, List.length_cons, List.length_nil]; omega)) rfl rfl h13 h_rest.src (fun _ => .here)) ?_
  rintro v15 _ _ ⟨i16, rfl, rfl, h17⟩
  refine w_freeze h17 .here ?_
  intro H18 e19 h20
  obtain ⟨y21, hy22, he⟩ := Option.bind_eq_some_iff.1 he
  refine w_a rfl (o_call co58 (vs := [v15]) rfl (radomeref01_trim.calls k hy22 h20)) ?_
  rintro v25 H23 _ ⟨rfl, e24, h26⟩
  refine w_d rfl (d_assign (v := v25) rfl) ?_
  refine w_done ?_
  refine w_block ?_
  refine w_loop ?_
  refine w_del .here ?_
  refine w_sl 2 (.pointer (some ⟨b_a, 0, none⟩)) rfl ?_
  refine w_sl 3 (.pointer (some ⟨b_b, 0, none⟩)) rfl ?_
  refine w_sl 4 (.pointer (some ⟨b_t4, 0, none⟩)) rfl ?_
  refine w_sl 5 (.pointer (some ⟨b_t5, 0, none⟩)) rfl ?_
  refine w_sl 6 (v25) rfl ?_
  refine w_sl 7 (v_q) rfl ?_
  refine w_sl 8 (.int .i64 i) rfl ?_
  exact hh.l1 (hle.trans (e19.trans e24)) he (h_a_1.mono (e19.trans e24)) (h_b_1.mono (e19.trans e24)) h26 (h_q.mono (e19.trans e24))
 ·
  refine w_else rfl (decide_eq_false c9) ?_
  refine w_exit rfl ?_
  refine w_seq ?_
  refine w_freeze h_q .here ?_
  intro H27 e28 h29
  obtain ⟨y30, hy31, he⟩ := Option.bind_eq_some_iff.1 he
  obtain ⟨y36, hy37, he⟩ := Option.bind_eq_some_iff.1 he
  refine w_none (?_)
  refine w_drawn (p := 9) (tl := [9]) [[], [(0, some 47)], [], [(2, some 49)], [(1, some 48), (3, some 50)], [], [(5, some 52)], [(4, some 51), (6, some 53)], []] [some 47, some 48, some 49, some 50, some 51, some 52, some 53, some 54, some 9] (fctF [.is (.pointer (some ⟨b_a, 0, none⟩)), .is (.bool a_0), .is (.pointer (some ⟨b_b, 0, none⟩)), .is (.bool b_0), .is (.bool (!(a_0 == b_0))), .is (v_q), .ro (Kd.int .i64) (y30), .of (radomeref01_num.out y36) (radomeref01_num.out_mono _), .box 43 [.bool false, .slice none 0 0]]) (fun m_ => m_ 8 :: none :: some (b_t5, .cells ⟨[.bool false, .slice none 0 0]⟩ 43 (0, 0)) :: some (b_t4, .cells ⟨[.bool false, .slice none 0 0]⟩ 43 (0, 0)) :: some (b_b, .cells ⟨[.bool b_0, v_b_1]⟩ 43 (0, 0)) :: some (b_a, .cells ⟨[.bool a_0, v_a_1]⟩ 43 (0, 0)) :: L) (fun _ => none) mixed (by kernel_rfl) (by kernel_rfl) rfl (fct_mono (by kernel_rfl)) ⟨(by intro H' m_ hH hm_ hu_; refine depK_nil ?_; exact s_d (m_ 0) rfl (d_fld (o' := 0) Tryd.underlying43 rfl sz4 rfl rfl rfl) (by exact rfl) rfl), (by intro H' m_ hH hm_ hu_; rintro _ rfl; refine depK_nil ?_; exact s_d (m_ 1) rfl (d_loado (v := .bool a_0) ty4 rfl (.there (.there (.there (.there (.there .here))))) rfl rfl rfl rfl) (by exact rfl) rfl), (by intro H' m_ hH hm_ hu_; refine depK_nil ?_; exact s_d (m_ 2) rfl (d_fld (o' := 0) Tryd.underlying43 rfl sz4 rfl rfl rfl) (by exact rfl) rfl), (by intro H' m_ hH hm_ hu_; rintro _ rfl; refine depK_nil ?_; exact s_d (m_ 3) rfl (d_loado (v := .bool b_0) ty4 rfl (.there (.there (.there (.there .here)))) rfl rfl rfl rfl) (by exact rfl) rfl), (by intro H' m_ hH hm_ hu_; rintro _ rfl _ rfl; refine depK_nil ?_; exact s_d (m_ 4) rfl (d_neb (a := a_0) (b := b_0) Tryd.underlying4 rfl rfl) (by exact rfl) rfl), (by intro H' m_ hH hm_ hu_; refine depK_nil ?_; exact s_d (m_ 5) rfl (d_move (v := v_q) rfl) (by exact rfl) rfl), (by intro H' m_ hH hm_ hu_; rintro _ rfl; refine depK_nil ?_; exact s_k (m_ 6) rfl (o_call co58 (vs := [v_q]) rfl (radomeref01_trim.calls k hy31 (h29.mono hH))) rfl (by rintro v_ H_ _ ⟨rfl, e_, h_⟩; exact ⟨rfl, e_, h_⟩)), (by intro H' m_ hH hm_ hu_; rintro _ rfl v34 (h35 : Ro (Kd.int .i64) H' v34 y30); refine depK_nil ?_; exact s_k (m_ 7) rfl (o_call co57 (vs := [.bool (!(a_0 == b_0)), v34]) rfl (radomeref01_num.calls k hy37 h35)) rfl (by rintro v_ H_ _ ⟨rfl, e_, h_⟩; exact ⟨rfl, e_, h_⟩)), (by intro H' m_ hH hm_ hu_; refine depK_nil ?_; exact s_box hm_ rfl rfl (o_alloc zr43 rfl) rfl (fun _ => .here) (by exact fun b_ => ⟨b_, rfl, rfl⟩)), trivial⟩ ?_
  intro H43 e44
  rintro _ _ rfl _ _ rfl _ _ rfl _ _ rfl _ _ rfl _ _ rfl v34 _ (h35 : Ro (Kd.int .i64) H43 v34 y30) _ _ ⟨v40, rfl, h41⟩ _ _ ⟨b42, rfl, rfl⟩
  refine w_a0 rfl (o_store (v := .agg ⟨[.bool y36.f_Neg, v40]⟩) sz43 rfl rfl rfl rfl (one_cons rfl (one_cons (h41.one) one_nil)) .here (.here (.here .done))) ?_
  rintro _ _ _ ⟨rfl, rfl, rfl⟩
  refine w_done ?_
  refine w_seq ?_
  refine w_region rfl ?_
  refine w_d rfl (d_move (v := v_rest) rfl) ?_
  obtain ⟨y45, hy46, he⟩ := Option.bind_eq_some_iff.1 he
  refine w_a rfl (o_call co57 (vs := [.bool false, v_rest]) rfl (radomeref01_num.calls k hy46 (h_rest.mono (e28.trans e44)))) ?_
  rintro _ H47 _ ⟨rfl, e48, ⟨v49, rfl, h50⟩⟩
  refine w_a rfl (o_alloc zr43 rfl) ?_
  rintro _ _ _ ⟨b51, rfl, rfl, rfl⟩
  refine w_a0 rfl (o_store (v := .agg ⟨[.bool y45.f_Neg, v49]⟩) sz43 rfl rfl rfl rfl (one_cons rfl (one_cons (h50.one) one_nil)) .here (.here (.here .done))) ?_
  rintro _ _ _ ⟨rfl, rfl, rfl⟩
  refine w_done ?_
  refine w_seq ?_
  refine w_seq ?_
  refine w_region rfl ?_
  refine w_d rfl (d_fld (o' := 0) Tryd.underlying43 rfl sz4 rfl rfl rfl) ?_
  refine w_d rfl (d_loado (v := .bool a_0) ty4 rfl (.there (.there (.there (.there (.there (.there .here)))))) rfl rfl rfl rfl) ?_
  refine w_d rfl (d_move (v := .bool a_0) rfl) ?_
  refine w_g (g := a_0) rfl rfl rfl wn_t (fun g52 => d_move (v := v_rest) rfl) ?_
  refine w_g (g := a_0) rfl rfl rfl wn_t (fun g53 => d_len Tryd.underlying41 (cvt g53) (h_rest.mono ((e28.trans e44).trans e48)).src) ?_
  refine w_g (g := a_0) rfl rfl rfl wn_t (fun g54 => d_gtr (cvt g54) rfl) ?_
  refine w_d rfl (d_and' (b := a_0) (p := (decide (0 < (rest.length : Int)))) rfl rfl rfl) ?_
  refine w_done ?_
  rcases its he with ⟨c55, he⟩ | ⟨c55, he⟩
  ·
   refine w_then rfl c55 ?_
   refine w_seq ?_
   refine w_region rfl ?_
   refine w_d rfl (d_fld (o' := 1) Tryd.underlying43 rfl sz41 rfl rfl rfl) ?_
   refine w_d rfl (d_loado (v := v_b_1) ty41 rfl (.there (.there (.there (.there (.there .here))))) rfl rfl rfl rfl) ?_
   refine w_d rfl (d_move (v := v_rest) rfl) ?_
   obtain ⟨y56, hy57, he⟩ := Option.bind_eq_some_iff.1 he
   refine w_a rfl (o_call co65 (vs := [v_b_1, v_rest]) rfl (radomeref01_minus.calls k hy57 (h_b_1.mono ((e28.trans e44).trans e48)) (h_rest.mono ((e28.trans e44).trans e48)))) ?_
   rintro v60 H58 _ ⟨rfl, e59, h61⟩
   obtain ⟨y62, hy63, he⟩ := Option.bind_eq_some_iff.1 he
   refine w_a rfl (o_call co57 (vs := [.bool false, v60]) rfl (radomeref01_num.calls k hy63 h61)) ?_
   rintro _ H64 _ ⟨rfl, e65, ⟨v66, rfl, h67⟩⟩
   refine w_a0 rfl (o_store (v := .agg ⟨[.bool y62.f_Neg, v66]⟩) sz43 rfl rfl rfl rfl (one_cons rfl (one_cons (h67.one) one_nil)) .here (.here (.here .done))) ?_
   rintro _ _ _ ⟨rfl, rfl, rfl⟩
   refine w_done ?_
   refine w_seq ?_
   refine w_region rfl ?_
   refine w_d rfl (d_fld (o' := 0) Tryd.underlying43 rfl sz4 rfl rfl rfl) ?_
   refine w_d rfl (d_loado (v := .bool b_0) ty4 rfl (.there (.there (.there (.there (.there .here))))) rfl rfl rfl rfl) ?_
   refine w_done ?_
   rcases its he with ⟨c68, he⟩ | ⟨c68, he⟩
   ·
    refine w_then rfl c68 ?_
    obtain ⟨y69, hy70, he⟩ := Option.bind_eq_some_iff.1 he
    refine w_drawn (p := 2) (tl := [2, 3]) [[], []] [some 71, some 72] (fctF [.is (.agg ⟨[.bool y36.f_Neg, v40]⟩), .of (radomeref01_Of.out y69) (radomeref01_Of.out_mono _)]) (fun m_ => some (b51, .cells ⟨[.bool y62.f_Neg, v66]⟩ 43 (0, 0)) :: some (b42, .cells ⟨[.bool y36.f_Neg, v40]⟩ 43 (0, 0)) :: none :: some (b_t5, .cells ⟨[.bool false, .slice none 0 0]⟩ 43 (0, 0)) :: some (b_t4, .cells ⟨[.bool false, .slice none 0 0]⟩ 43 (0, 0)) :: some (b_b, .cells ⟨[.bool b_0, v_b_1]⟩ 43 (0, 0)) :: some (b_a, .cells ⟨[.bool a_0, v_a_1]⟩ 43 (0, 0)) :: L) (fun _ => none) mixed (by kernel_rfl) (by kernel_rfl) rfl (fct_mono (by kernel_rfl)) ⟨(by intro H' m_ hH hm_ hu_; refine depK_nil ?_; exact s_d (m_ 0) rfl (d_loado (v := .agg ⟨[.bool y36.f_Neg, v40]⟩) ty43 rfl (.there .here) rfl rfl rfl rfl) (by exact rfl) rfl), (by intro H' m_ hH hm_ hu_; refine depK_nil ?_; exact s_k (m_ 1) rfl (o_call co22 (vs := [.int .i64 1]) rfl (radomeref01_Of.calls k hy70)) rfl (by rintro v_ H_ _ ⟨rfl, e_, h_⟩; exact ⟨rfl, e_, h_⟩)), trivial⟩ ?_
    intro H75 e76
    rintro _ _ rfl _ _ ⟨v73, rfl, h74⟩
    obtain ⟨y77, hy78, he⟩ := Option.bind_eq_some_iff.1 he
    refine w_a rfl (o_call co56 (vs := [.agg ⟨[.bool y36.f_Neg, v40]⟩, .agg ⟨[.bool y69.f_Neg, v73]⟩]) rfl (radomeref01_Add.calls k (a := (⟨y36.f_Neg, y36.f_D⟩ : radomeref01_Num)) (b := (⟨y69.f_Neg, y69.f_D⟩ : radomeref01_Num)) hy78 (h41.mono (((e48.trans e59).trans e65).trans e76)) h74)) ?_
    rintro _ H79 _ ⟨rfl, e80, ⟨v81, rfl, h82⟩⟩
    refine w_a0 rfl (o_store (v := .agg ⟨[.bool y77.f_Neg, v81]⟩) sz43 rfl rfl rfl rfl (one_cons rfl (one_cons (h82.one) one_nil)) (.there .here) (.here (.here .done))) ?_
    rintro _ _ _ ⟨rfl, rfl, rfl⟩
    refine w_done ?_
    refine w_seq ?_
    refine w_drawn (p := 3) (tl := [3]) [[], [], [(0, some 77)]] [some 77, some 78, none] (fctF [.is (.agg ⟨[.bool y77.f_Neg, v81]⟩), .is (.agg ⟨[.bool y62.f_Neg, v66]⟩), .itm (fun H it => it = some (b_t4, .cells ⟨[.bool y77.f_Neg, v81]⟩ 43 (0, 0))) (by rintro _ _ _ hle rfl; exact rfl)]) (fun m_ => some (b51, .cells ⟨[.bool y62.f_Neg, v66]⟩ 43 (0, 0)) :: some (b42, .cells ⟨[.bool y77.f_Neg, v81]⟩ 43 (0, 0)) :: none :: some (b_t5, .cells ⟨[.bool false, .slice none 0 0]⟩ 43 (0, 0)) :: m_ 2 :: some (b_b, .cells ⟨[.bool b_0, v_b_1]⟩ 43 (0, 0)) :: some (b_a, .cells ⟨[.bool a_0, v_a_1]⟩ 43 (0, 0)) :: L) (fun i_ => if i_ = 2 then some (b_t4, .cells ⟨[.bool false, .slice none 0 0]⟩ 43 (0, 0)) else none) mixed (by kernel_rfl) (by kernel_rfl) rfl (fct_mono (by kernel_rfl)) ⟨(by intro H' m_ hH hm_ hu_; refine depK_nil ?_; exact s_d (m_ 0) rfl (d_loado (v := .agg ⟨[.bool y77.f_Neg, v81]⟩) ty43 rfl (.there .here) rfl rfl rfl rfl) (by exact rfl) rfl), (by intro H' m_ hH hm_ hu_; refine depK_nil ?_; exact s_d (m_ 1) rfl (d_loado (v := .agg ⟨[.bool y62.f_Neg, v66]⟩) ty43 rfl .here rfl rfl rfl rfl) (by exact rfl) rfl), (by intro H' m_ hH hm_ hu_; rintro _ rfl; refine depK_nil ?_; exact s_store (some (b_t4, .cells ⟨[.bool y77.f_Neg, v81]⟩ 43 (0, 0))) hm_ rfl (o_store (v := .agg ⟨[.bool y77.f_Neg, v81]⟩) sz43 rfl rfl rfl rfl (one_cons rfl (one_cons (h82.one) one_nil)) (.there (.there (.there (.there .here)))) (.here (.here .done))) rfl (by exact ⟨rfl, rfl⟩)), trivial⟩ ?_
    intro H83 e84
    rintro _ _ rfl _ _ rfl _ _ ⟨rfl, rfl⟩
    refine w_it (L' := some (b51, .cells ⟨[.bool y62.f_Neg, v66]⟩ 43 (0, 0)) :: some (b42, .cells ⟨[.bool y77.f_Neg, v81]⟩ 43 (0, 0)) :: none :: some (b_t5, .cells ⟨[.bool false, .slice none 0 0]⟩ 43 (0, 0)) :: some (b_t4, .cells ⟨[.bool y77.f_Neg, v81]⟩ 43 (0, 0)) :: some (b_b, .cells ⟨[.bool b_0, v_b_1]⟩ 43 (0, 0)) :: some (b_a, .cells ⟨[.bool a_0, v_a_1]⟩ 43 (0, 0)) :: L) rfl ?_
    refine w_a0 rfl (o_store (v := .agg ⟨[.bool y62.f_Neg, v66]⟩) sz43 rfl rfl rfl rfl (one_cons rfl (one_cons (h67.one) one_nil)) (.there (.there (.there .here))) (.here (.here .done))) ?_
    rintro _ _ _ ⟨rfl, rfl, rfl⟩
    refine w_done ?_
    obtain rfl := Option.some.inj he
    refine w_return fn_54 rs_54 (.box (v := .agg ⟨[.bool y77.f_Neg, v81]⟩) rfl ty43 rfl rfl (.there (.there (.there (.there .here)))) rfl (.box (v := .agg ⟨[.bool y62.f_Neg, v66]⟩) rfl ty43 rfl rfl (.there (.there (.there .here))) rfl .nil)) ?_
    exact ⟨⟨[_, _, _, _, _, _, _], rfl⟩, hle.trans (((((((e28.trans e44).trans e48).trans e59).trans e65).trans e76).trans e80).trans e84), ⟨v81, v66, rfl, (h82.mono e84), (h67.mono ((e76.trans e80).trans e84))⟩⟩
   ·
    refine w_else rfl (Bool.eq_false_iff.2 c68) ?_
    obtain ⟨y85, hy86, he⟩ := Option.bind_eq_some_iff.1 he
    refine w_drawn (p := 2) (tl := [2, 3]) [[], []] [some 74, some 75] (fctF [.is (.agg ⟨[.bool y36.f_Neg, v40]⟩), .of (radomeref01_Of.out y85) (radomeref01_Of.out_mono _)]) (fun m_ => some (b51, .cells ⟨[.bool y62.f_Neg, v66]⟩ 43 (0, 0)) :: some (b42, .cells ⟨[.bool y36.f_Neg, v40]⟩ 43 (0, 0)) :: none :: some (b_t5, .cells ⟨[.bool false, .slice none 0 0]⟩ 43 (0, 0)) :: some (b_t4, .cells ⟨[.bool false, .slice none 0 0]⟩ 43 (0, 0)) :: some (b_b, .cells ⟨[.bool b_0, v_b_1]⟩ 43 (0, 0)) :: some (b_a, .cells ⟨[.bool a_0, v_a_1]⟩ 43 (0, 0)) :: L) (fun _ => none) mixed (by kernel_rfl) (by kernel_rfl) rfl (fct_mono (by kernel_rfl)) ⟨(by intro H' m_ hH hm_ hu_; refine depK_nil ?_; exact s_d (m_ 0) rfl (d_loado (v := .agg ⟨[.bool y36.f_Neg, v40]⟩) ty43 rfl (.there .here) rfl rfl rfl rfl) (by exact rfl) rfl), (by intro H' m_ hH hm_ hu_; refine depK_nil ?_; exact s_k (m_ 1) rfl (o_call co22 (vs := [.int .i64 1]) rfl (radomeref01_Of.calls k hy86)) rfl (by rintro v_ H_ _ ⟨rfl, e_, h_⟩; exact ⟨rfl, e_, h_⟩)), trivial⟩ ?_
    intro H91 e92
    rintro _ _ rfl _ _ ⟨v89, rfl, h90⟩
    obtain ⟨y93, hy94, he⟩ := Option.bind_eq_some_iff.1 he
    refine w_a rfl (o_call co66 (vs := [.agg ⟨[.bool y36.f_Neg, v40]⟩, .agg ⟨[.bool y85.f_Neg, v89]⟩]) rfl (radomeref01_Sub.calls k (a := (⟨y36.f_Neg, y36.f_D⟩ : radomeref01_Num)) (b := (⟨y85.f_Neg, y85.f_D⟩ : radomeref01_Num)) hy94 (h41.mono (((e48.trans e59).trans e65).trans e92)) h90)) ?_
    rintro _ H95 _ ⟨rfl, e96, ⟨v97, rfl, h98⟩⟩
    refine w_a0 rfl (o_store (v := .agg ⟨[.bool y93.f_Neg, v97]⟩) sz43 rfl rfl rfl rfl (one_cons rfl (one_cons (h98.one) one_nil)) (.there .here) (.here (.here .done))) ?_
    rintro _ _ _ ⟨rfl, rfl, rfl⟩
    refine w_done ?_
    refine w_seq ?_
    refine w_drawn (p := 3) (tl := [3]) [[], [], [(0, some 77)]] [some 77, some 78, none] (fctF [.is (.agg ⟨[.bool y93.f_Neg, v97]⟩), .is (.agg ⟨[.bool y62.f_Neg, v66]⟩), .itm (fun H it => it = some (b_t4, .cells ⟨[.bool y93.f_Neg, v97]⟩ 43 (0, 0))) (by rintro _ _ _ hle rfl; exact rfl)]) (fun m_ => some (b51, .cells ⟨[.bool y62.f_Neg, v66]⟩ 43 (0, 0)) :: some (b42, .cells ⟨[.bool y93.f_Neg, v97]⟩ 43 (0, 0)) :: none :: some (b_t5, .cells ⟨[.bool false, .slice none 0 0]⟩ 43 (0, 0)) :: m_ 2 :: some (b_b, .cells ⟨[.bool b_0, v_b_1]⟩ 43 (0, 0)) :: some (b_a, .cells ⟨[.bool a_0, v_a_1]⟩ 43 (0, 0)) :: L) (fun i_ => if i_ = 2 then some (b_t4, .cells ⟨[.bool false, .slice none 0 0]⟩ 43 (0, 0)) else none) mixed (by kernel_rfl) (by kernel_rfl) rfl (fct_mono (by kernel_rfl)) ⟨(by intro H' m_ hH hm_ hu_; refine depK_nil ?_; exact s_d (m_ 0) rfl (d_loado (v := .agg ⟨[.bool y93.f_Neg, v97]⟩) ty43 rfl (.there .here) rfl rfl rfl rfl) (by exact rfl) rfl), (by intro H' m_ hH hm_ hu_; refine depK_nil ?_; exact s_d (m_ 1) rfl (d_loado (v := .agg ⟨[.bool y62.f_Neg, v66]⟩) ty43 rfl .here rfl rfl rfl rfl) (by exact rfl) rfl), (by intro H' m_ hH hm_ hu_; rintro _ rfl; refine depK_nil ?_; exact s_store (some (b_t4, .cells ⟨[.bool y93.f_Neg, v97]⟩ 43 (0, 0))) hm_ rfl (o_store (v := .agg ⟨[.bool y93.f_Neg, v97]⟩) sz43 rfl rfl rfl rfl (one_cons rfl (one_cons (h98.one) one_nil)) (.there (.there (.there (.there .here)))) (.here (.here .done))) rfl (by exact ⟨rfl, rfl⟩)), trivial⟩ ?_
    intro H99 e100
    rintro _ _ rfl _ _ rfl _ _ ⟨rfl, rfl⟩
    refine w_it (L' := some (b51, .cells ⟨[.bool y62.f_Neg, v66]⟩ 43 (0, 0)) :: some (b42, .cells ⟨[.bool y93.f_Neg, v97]⟩ 43 (0, 0)) :: none :: some (b_t5, .cells ⟨[.bool false, .slice none 0 0]⟩ 43 (0, 0)) :: some (b_t4, .cells ⟨[.bool y93.f_Neg, v97]⟩ 43 (0, 0)) :: some (b_b, .cells ⟨[.bool b_0, v_b_1]⟩ 43 (0, 0)) :: some (b_a, .cells ⟨[.bool a_0, v_a_1]⟩ 43 (0, 0)) :: L) rfl ?_
    refine w_a0 rfl (o_store (v := .agg ⟨[.bool y62.f_Neg, v66]⟩) sz43 rfl rfl rfl rfl (one_cons rfl (one_cons (h67.one) one_nil)) (.there (.there (.there .here))) (.here (.here .done))) ?_
    rintro _ _ _ ⟨rfl, rfl, rfl⟩
    refine w_done ?_
    obtain rfl := Option.some.inj he
    refine w_return fn_54 rs_54 (.box (v := .agg ⟨[.bool y93.f_Neg, v97]⟩) rfl ty43 rfl rfl (.there (.there (.there (.there .here)))) rfl (.box (v := .agg ⟨[.bool y62.f_Neg, v66]⟩) rfl ty43 rfl rfl (.there (.there (.there .here))) rfl .nil)) ?_
    exact ⟨⟨[_, _, _, _, _, _, _], rfl⟩, hle.trans (((((((e28.trans e44).trans e48).trans e59).trans e65).trans e92).trans e96).trans e100), ⟨v97, v66, rfl, (h98.mono e100), (h67.mono ((e92.trans e96).trans e100))⟩⟩
  ·
   refine w_else rfl (Bool.eq_false_iff.2 c55) ?_
   refine w_skip ?_
   refine w_seq ?_
   refine w_drawn (p := 3) (tl := [3]) [[], [], [(0, some 77)]] [some 77, some 78, none] (fctF [.is (.agg ⟨[.bool y36.f_Neg, v40]⟩), .is (.agg ⟨[.bool y45.f_Neg, v49]⟩), .itm (fun H it => it = some (b_t4, .cells ⟨[.bool y36.f_Neg, v40]⟩ 43 (0, 0))) (by rintro _ _ _ hle rfl; exact rfl)]) (fun m_ => some (b51, .cells ⟨[.bool y45.f_Neg, v49]⟩ 43 (0, 0)) :: some (b42, .cells ⟨[.bool y36.f_Neg, v40]⟩ 43 (0, 0)) :: none :: some (b_t5, .cells ⟨[.bool false, .slice none 0 0]⟩ 43 (0, 0)) :: m_ 2 :: some (b_b, .cells ⟨[.bool b_0, v_b_1]⟩ 43 (0, 0)) :: some (b_a, .cells ⟨[.bool a_0, v_a_1]⟩ 43 (0, 0)) :: L) (fun i_ => if i_ = 2 then some (b_t4, .cells ⟨[.bool false, .slice none 0 0]⟩ 43 (0, 0)) else none) mixed (by kernel_rfl) (by kernel_rfl) rfl (fct_mono (by kernel_rfl)) ⟨(by intro H' m_ hH hm_ hu_; refine depK_nil ?_; exact s_d (m_ 0) rfl (d_loado (v := .agg ⟨[.bool y36.f_Neg, v40]⟩) ty43 rfl (.there .here) rfl rfl rfl rfl) (by exact rfl) rfl), (by intro H' m_ hH hm_ hu_; refine depK_nil ?_; exact s_d (m_ 1) rfl (d_loado (v := .agg ⟨[.bool y45.f_Neg, v49]⟩) ty43 rfl .here rfl rfl rfl rfl) (by exact rfl) rfl), (by intro H' m_ hH hm_ hu_; rintro _ rfl; refine depK_nil ?_; exact s_store (some (b_t4, .cells ⟨[.bool y36.f_Neg, v40]⟩ 43 (0, 0))) hm_ rfl (o_store (v := .agg ⟨[.bool y36.f_Neg, v40]⟩) sz43 rfl rfl rfl rfl (one_cons rfl (one_cons (h41.one) one_nil)) (.there (.there (.there (.there .here)))) (.here (.here .done))) rfl (by exact ⟨rfl, rfl⟩)), trivial⟩ ?_
   intro H101 e102
   rintro _ _ rfl _ _ rfl _ _ ⟨rfl, rfl⟩
   refine w_it (L' := some (b51, .cells ⟨[.bool y45.f_Neg, v49]⟩ 43 (0, 0)) :: some (b42, .cells ⟨[.bool y36.f_Neg, v40]⟩ 43 (0, 0)) :: none :: some (b_t5, .cells ⟨[.bool false, .slice none 0 0]⟩ 43 (0, 0)) :: some (b_t4, .cells ⟨[.bool y36.f_Neg, v40]⟩ 43 (0, 0)) :: some (b_b, .cells ⟨[.bool b_0, v_b_1]⟩ 43 (0, 0)) :: some (b_a, .cells ⟨[.bool a_0, v_a_1]⟩ 43 (0, 0)) :: L) rfl ?_
   refine w_a0 rfl (o_store (v := .agg ⟨[.bool y45.f_Neg, v49]⟩) sz43 rfl rfl rfl rfl (one_cons rfl (one_cons (h50.one) one_nil)) (.there (.there (.there .here))) (.here (.here .done))) ?_
   rintro _ _ _ ⟨rfl, rfl, rfl⟩
   refine w_done ?_
   obtain rfl := Option.some.inj he
   refine w_return fn_54 rs_54 (.box (v := .agg ⟨[.bool y36.f_Neg, v40]⟩) rfl ty43 rfl rfl (.there (.there (.there (.there .here)))) rfl (.box (v := .agg ⟨[.bool y45.f_Neg, v49]⟩) rfl ty43 rfl rfl (.there (.there (.there .here))) rfl .nil)) ?_
   exact ⟨⟨[_, _, _, _, _, _, _], rfl⟩, hle.trans (((e28.trans e44).trans e48).trans e102), ⟨v40, v49, rfl, (h41.mono (e48.trans e102)), (h50.mono e102)⟩⟩
set_option maxRecDepth 100000 in
set_option maxHeartbeats 2000000 in
theorem radomeref01_Div.b1_ok {k : Nat} {h : radomeref01_Div.Hs} (hh : radomeref01_Div.OK h) {H0 H : Hp} {L : Items} {r : radomeref01_Num × radomeref01_Num} {jk_ : Nat → Value} {a_0 : Bool} {a_1 : List Int} {b_0 : Bool} {b_1 : List Int} {rest : List Int} {q : List Int} {i : Int} {v_a_1 : Value} {v_b_1 : Value} {v_rest : Value} {v_q : Value} {i_q : Item'} {b_a : Nat} {b_b : Nat} {b_t4 : Nat} {b_t5 : Nat} (hle : H0.le H) (he : radomeref01_Div.b1 k h a_0 a_1 b_0 b_1 rest q i = some r) (h_a_1 : Ro (Kd.int .i64) H v_a_1 a_1) (h_b_1 : Ro (Kd.int .i64) H v_b_1 b_1) (h_rest : Ro (Kd.int .i64) H v_rest rest) (h_q : Sl (Kd.int .i64) H 3 i_q v_q q) : Wp Tryd.prog 54 79 radomeref01_Div.Kl1 (upd (upd (upd (upd (upd (upd (upd jk_ 2 (.pointer (some ⟨b_a, 0, none⟩))) 3 (.pointer (some ⟨b_b, 0, none⟩))) 4 (.pointer (some ⟨b_t4, 0, none⟩))) 5 (.pointer (some ⟨b_t5, 0, none⟩))) 6 (v_rest)) 7 (v_q)) 8 (.int .i64 i)) H (i_q :: some (b_t5, .cells ⟨[.bool false, .slice none 0 0]⟩ 43 (0, 0)) :: some (b_t4, .cells ⟨[.bool false, .slice none 0 0]⟩ 43 (0, 0)) :: some (b_b, .cells ⟨[.bool b_0, v_b_1]⟩ 43 (0, 0)) :: some (b_a, .cells ⟨[.bool a_0, v_a_1]⟩ 43 (0, 0)) :: L) (radomeref01_Div.R H0 L r) := by
 unfold radomeref01_Div.b1 at he
 unfold radomeref01_Div.Kl1
 refine w_seq ?_
 refine w_seq ?_
 refine w_region rfl ?_
 refine w_d rfl (d_move (v := v_rest) rfl) ?_
 refine w_d rfl (d_fld (o' := 1) Tryd.underlying43 rfl sz41 rfl rfl rfl) ?_
 refine w_d rfl (d_loado (v := v_b_1) ty41 rfl (.there (.there (.there .here))) rfl rfl rfl rfl) ?_
 obtain ⟨y103, hy104, he⟩ := Option.bind_eq_some_iff.1 he
 refine w_d rfl (call_d (o_call co64 (vs := [v_rest, v_b_1]) rfl (radomeref01_Less.calls k hy104 h_rest h_b_1))) ?_
 refine w_d rfl (d_not (b := y103) rfl) ?_
 refine w_done ?_
 rcases its he with ⟨c107, he⟩ | ⟨c107, he⟩
 ·
  refine w_then rfl c107 ?_
  refine w_skip ?_
  refine w_block ?_
  refine w_seq ?_
  refine w_region rfl ?_
  refine w_d rfl (d_move (v := v_rest) rfl) ?_
  refine w_d rfl (d_fld (o' := 1) Tryd.underlying43 rfl sz41 rfl rfl rfl) ?_
  refine w_d rfl (d_loado (v := v_b_1) ty41 rfl (.there (.there (.there .here))) rfl rfl rfl rfl) ?_
  obtain ⟨y108, hy109, he⟩ := Option.bind_eq_some_iff.1 he
  refine w_a rfl (o_call co65 (vs := [v_rest, v_b_1]) rfl (radomeref01_minus.calls k hy109 h_rest h_b_1)) ?_
  rintro v112 H110 _ ⟨rfl, e111, h113⟩
  refine w_d rfl (d_assign (v := v112) rfl) ?_
  refine w_done ?_
  refine w_region rfl ?_
  refine w_d rfl (d_move (v := v_q) rfl) ?_
  refine w_d rfl (d_move (v := .int .i64 i) rfl) ?_
  obtain ⟨c114, he⟩ := rq he
  refine w_d rfl (d_index (sz := 1) Tryd.underlying41 sz3 rfl ((h_q.mono e111).src .here) rfl c114) ?_
  refine w_d rfl (d_ldint ty3 rfl ((h_q.mono e111).src .here) c114) ?_
  refine w_d rfl (d_add (c := w64 ((rd q i) + 1)) rfl rfl rfl) ?_
  obtain ⟨c115, he⟩ := rq he
  refine w_d rfl (d_index (sz := 1) Tryd.underlying41 sz3 rfl ((h_q.mono e111).src .here) rfl c115) ?_
  refine w_a0 rfl (o_storeEl (kd := (Kd.int .i64)) (v := .int .i64 (w64 ((rd q i) + 1))) (F := fun z_ => z_ :: some (b_t5, .cells ⟨[.bool false, .slice none 0 0]⟩ 43 (0, 0)) :: some (b_t4, .cells ⟨[.bool false, .slice none 0 0]⟩ 43 (0, 0)) :: some (b_b, .cells ⟨[.bool b_0, v_b_1]⟩ 43 (0, 0)) :: some (b_a, .cells ⟨[.bool a_0, v_a_1]⟩ 43 (0, 0)) :: L) sz3 rfl rfl rfl rfl (h_q.mono e111) c115 (fun _ => .here)) ?_
  rintro _ _ _ ⟨i116, rfl, rfl, rfl, h117⟩
  refine w_done ?_
  refine w_inBlock ?_
  refine w_inLoop ?_
  refine w_sl 2 (.pointer (some ⟨b_a, 0, none⟩)) rfl ?_
  refine w_sl 3 (.pointer (some ⟨b_b, 0, none⟩)) rfl ?_
  refine w_sl 4 (.pointer (some ⟨b_t4, 0, none⟩)) rfl ?_
  refine w_sl 5 (.pointer (some ⟨b_t5, 0, none⟩)) rfl ?_
  refine w_sl 6 (v112) rfl ?_
  refine w_sl 7 (v_q) rfl ?_
  refine w_sl 8 (.int .i64 i) rfl ?_
  exact hh.l1 (hle.trans e111) he (h_a_1.mono e111) (h_b_1.mono e111) h113 h117
 ·
  refine w_else rfl (Bool.eq_false_iff.2 c107) ?_
  refine w_exit rfl ?_
  refine w_inBlock ?_
  refine w_region rfl ?_
  refine w_d rfl (d_move (v := .int .i64 i) rfl) ?_
  refine w_d rfl (d_sub (c := w64 (i - 1)) rfl rfl rfl) ?_
  refine w_d rfl (d_assign (v := .int .i64 (w64 (i - 1))) rfl) ?_
  refine w_done ?_
  refine w_inLoop ?_
  refine w_sl 2 (.pointer (some ⟨b_a, 0, none⟩)) rfl ?_
  refine w_sl 3 (.pointer (some ⟨b_b, 0, none⟩)) rfl ?_
  refine w_sl 4 (.pointer (some ⟨b_t4, 0, none⟩)) rfl ?_
  refine w_sl 5 (.pointer (some ⟨b_t5, 0, none⟩)) rfl ?_
  refine w_sl 6 (v_rest) rfl ?_
  refine w_sl 7 (v_q) rfl ?_
  refine w_sl 8 (.int .i64 (w64 (i - 1))) rfl ?_
  exact hh.l0 hle he h_a_1 h_b_1 h_rest h_q
theorem radomeref01_Div.ok : ∀ k, radomeref01_Div.OK (radomeref01_Div.hs k)
 | 0 => ⟨(by intros; exact nomatch (show none = some _ from by assumption)), (by intros; exact nomatch (show none = some _ from by assumption))⟩
 | k + 1 => ⟨radomeref01_Div.b0_ok (k := k) (radomeref01_Div.ok k), radomeref01_Div.b1_ok (k := k) (radomeref01_Div.ok k)⟩
set_option maxRecDepth 100000 in
set_option maxHeartbeats 2000000 in
theorem radomeref01_Div.calls (k : Nat) {H : Hp} {L : Items} {a : radomeref01_Num} {b : radomeref01_Num} {v0_a : Value} {v1_b : Value} {r : radomeref01_Num × radomeref01_Num} (he : radomeref01_Div.f k a b = some r) (h0_a : Ro (Kd.int .i64) H v0_a a.f_D) (h1_b : Ro (Kd.int .i64) H v1_b b.f_D) : Ct Tryd.prog 54 ⟨[.agg ⟨[.bool a.f_Neg, v0_a]⟩, .agg ⟨[.bool b.f_Neg, v1_b]⟩]⟩ H L (fun v H' L' => L = L' ∧ H.le H' ∧ radomeref01_Div.out r H' v) := by
 refine ct_out (O := radomeref01_Div.out r) ?_
 have hle : H.le H := .refl _
 have hh := radomeref01_Div.ok k
 unfold radomeref01_Div.f at he
 refine ct_enter (args := [.agg ⟨[.bool a.f_Neg, v0_a]⟩, .agg ⟨[.bool b.f_Neg, v1_b]⟩]) fn_54 rfl nt_54 rfl ?_
 refine w_seq ?_
 refine w_region rfl ?_
 refine w_a rfl (o_box (v := .agg ⟨[.bool a.f_Neg, v0_a]⟩) rfl rfl) ?_
 rintro _ _ _ ⟨b1, rfl, rfl, rfl⟩
 refine w_a rfl (o_box (v := .agg ⟨[.bool b.f_Neg, v1_b]⟩) rfl rfl) ?_
 rintro _ _ _ ⟨b2, rfl, rfl, rfl⟩
 refine w_a rfl (o_alloc zr43 rfl) ?_
 rintro _ _ _ ⟨b3, rfl, rfl, rfl⟩
 refine w_a rfl (o_alloc zr43 rfl) ?_
 rintro _ _ _ ⟨b4, rfl, rfl, rfl⟩
 refine w_done ?_
 refine w_seq ?_
 refine w_region rfl ?_
 refine w_d rfl (d_assign (v := .slice none 0 0) rfl) ?_
 refine w_done ?_
 refine w_seq ?_
 refine w_region rfl ?_
 refine w_d rfl (d_fld (o' := 1) Tryd.underlying43 rfl sz41 rfl rfl rfl) ?_
 refine w_d rfl (d_loado (v := v0_a) ty41 rfl (.there (.there (.there .here))) rfl rfl rfl rfl) ?_
 refine w_d rfl (d_len Tryd.underlying41 rfl h0_a.src) ?_
 obtain ⟨c5, he⟩ := rq he
 refine w_a rfl (o_make' (kd := (Kd.int .i64)) (z0 := 0) Tryd.underlying41 ti3 (zp3 _) rfl rfl (by omega) (by omega) (by omega)) ?_
 rintro v6 _ _ ⟨i7, rfl, rfl, h8⟩
 refine w_d rfl (d_assign (v := v6) rfl) ?_
 refine w_done ?_
 refine w_seq ?_
 refine w_seq ?_
 refine w_region rfl ?_
 refine w_d rfl (d_fld (o' := 1) Tryd.underlying43 rfl sz41 rfl rfl rfl) ?_
 refine w_d rfl (d_loado (v := v0_a) ty41 rfl (.there (.there (.there (.there .here)))) rfl rfl rfl rfl) ?_
 refine w_d rfl (d_len Tryd.underlying41 rfl h0_a.src) ?_
 refine w_d rfl (d_sub (c := w64 ((a.f_D.length : Int) - 1)) rfl rfl rfl) ?_
 refine w_d rfl (d_assign (v := .int .i64 (w64 ((a.f_D.length : Int) - 1))) rfl) ?_
 refine w_done ?_
 refine w_block ?_
 refine w_loop ?_
 refine w_sl 2 (.pointer (some ⟨b1, 0, none⟩)) rfl ?_
 refine w_sl 3 (.pointer (some ⟨b2, 0, none⟩)) rfl ?_
 refine w_sl 4 (.pointer (some ⟨b3, 0, none⟩)) rfl ?_
 refine w_sl 5 (.pointer (some ⟨b4, 0, none⟩)) rfl ?_
 refine w_sl 6 (.slice none 0 0) rfl ?_
 refine w_sl 7 (v6) rfl ?_
 refine w_sl 8 (.int .i64 (w64 ((a.f_D.length : Int) - 1))) rfl ?_
 exact hh.l0 hle he h0_a h1_b (ro_nil _ _) h8
/-! ### radome/radomeref01.Sign -/
noncomputable def radomeref01_Sign.C : Code := (Tryd.f21.body).getD .skip
def radomeref01_Sign.out (r : Int) (H : Hp) (v : Value) : Prop := v = .int .i64 r
abbrev radomeref01_Sign.R (H0 : Hp) (L : Items) (r : Int) : Value → Hp → Items → Prop := fun v H' L' => (∃ p, L' = p ++ L) ∧ H0.le H' ∧ radomeref01_Sign.out r H' v
noncomputable def radomeref01_Sign.f (k : Nat) (a : radomeref01_Num) : Option Int := if (a.f_D.length : Int) = 0 then (some (0)) else (if a.f_Neg = true then (some ((-1))) else (some (1)))
theorem radomeref01_Sign.mono : ∀ k y0, LeO (radomeref01_Sign.f k y0) (radomeref01_Sign.f (k + 1) y0) := fun k _ => by unfold radomeref01_Sign.f; exact (LeO.ite (LeO.refl _) (LeO.ite (LeO.refl _) (LeO.refl _)))
set_option maxRecDepth 100000 in
set_option maxHeartbeats 2000000 in
theorem radomeref01_Sign.calls (k : Nat) {H : Hp} {L : Items} {a : radomeref01_Num} {v0_a : Value} {r : Int} (he : radomeref01_Sign.f k a = some r) (h0_a : Ro (Kd.int .i64) H v0_a a.f_D) : Ct Tryd.prog 21 ⟨[.agg ⟨[.bool a.f_Neg, v0_a]⟩]⟩ H L (fun v H' L' => L = L' ∧ H = H' ∧ v = .int .i64 r) := by
 refine ct_outs (O := radomeref01_Sign.out r) (fun _ _ h => h) ?_
 have hle : H.le H := .refl _
 unfold radomeref01_Sign.f at he
 refine ct_enter (args := [.agg ⟨[.bool a.f_Neg, v0_a]⟩]) fn_21 rfl nt_21 rfl ?_
 refine w_seq ?_
 refine w_region rfl ?_
 refine w_a rfl (o_box (v := .agg ⟨[.bool a.f_Neg, v0_a]⟩) rfl rfl) ?_
 rintro _ _ _ ⟨b1, rfl, rfl, rfl⟩
 refine w_d rfl (d_assign (v := .int .i64 0) rfl) ?_
 refine w_done ?_
 refine w_seq ?_
 refine w_seq ?_
 refine w_region rfl ?_
 refine w_d rfl (d_fld (o' := 1) Tryd.underlying43 rfl sz41 rfl rfl rfl) ?_
 refine w_d rfl (d_loado (v := v0_a) ty41 rfl .here rfl rfl rfl rfl) ?_
 refine w_d rfl (d_len Tryd.underlying41 rfl h0_a.src) ?_
 refine w_d rfl (d_eql rfl rfl) ?_
 refine w_done ?_
 rcases its he with ⟨c2, he⟩ | ⟨c2, he⟩
 ·
  refine w_then rfl (decide_eq_true c2) ?_
  refine w_seq ?_
  refine w_region rfl ?_
  refine w_d rfl (d_assign (v := .int .i64 0) rfl) ?_
  refine w_done ?_
  obtain rfl := Option.some.inj he
  refine w_return fn_21 rs_21 (.tmp (v := .int .i64 0) rfl .nil) ?_
  exact ⟨⟨[_], rfl⟩, hle, rfl⟩
 ·
  refine w_else rfl (decide_eq_false c2) ?_
  refine w_skip ?_
  refine w_seq ?_
  refine w_seq ?_
  refine w_region rfl ?_
  refine w_d rfl (d_fld (o' := 0) Tryd.underlying43 rfl sz4 rfl rfl rfl) ?_
  refine w_d rfl (d_loado (v := .bool a.f_Neg) ty4 rfl .here rfl rfl rfl rfl) ?_
  refine w_done ?_
  rcases its he with ⟨c3, he⟩ | ⟨c3, he⟩
  ·
   refine w_then rfl c3 ?_
   refine w_seq ?_
   refine w_region rfl ?_
   refine w_d rfl (d_assign (v := .int .i64 (-1)) rfl) ?_
   refine w_done ?_
   obtain rfl := Option.some.inj he
   refine w_return fn_21 rs_21 (.tmp (v := .int .i64 (-1)) rfl .nil) ?_
   exact ⟨⟨[_], rfl⟩, hle, rfl⟩
  ·
   refine w_else rfl (Bool.eq_false_iff.2 c3) ?_
   refine w_skip ?_
   refine w_seq ?_
   refine w_region rfl ?_
   refine w_d rfl (d_assign (v := .int .i64 1) rfl) ?_
   refine w_done ?_
   obtain rfl := Option.some.inj he
   refine w_return fn_21 rs_21 (.tmp (v := .int .i64 1) rfl .nil) ?_
   exact ⟨⟨[_], rfl⟩, hle, rfl⟩
/-! ### radome/radomeref01.Cmp -/
noncomputable def radomeref01_Cmp.C : Code := (Tryd.f55.body).getD .skip
def radomeref01_Cmp.out (r : Int) (H : Hp) (v : Value) : Prop := v = .int .i64 r
abbrev radomeref01_Cmp.R (H0 : Hp) (L : Items) (r : Int) : Value → Hp → Items → Prop := fun v H' L' => (∃ p, L' = p ++ L) ∧ H0.le H' ∧ radomeref01_Cmp.out r H' v
noncomputable def radomeref01_Cmp.f (k : Nat) (a : radomeref01_Num) (b : radomeref01_Num) : Option Int := (radomeref01_Sub.f k (⟨a.f_Neg, a.f_D⟩ : radomeref01_Num) (⟨b.f_Neg, b.f_D⟩ : radomeref01_Num)).bind fun y3 => (radomeref01_Sign.f k (⟨y3.f_Neg, y3.f_D⟩ : radomeref01_Num)).bind fun y9 => some (y9)
theorem radomeref01_Cmp.mono : ∀ k y0 y1, LeO (radomeref01_Cmp.f k y0 y1) (radomeref01_Cmp.f (k + 1) y0 y1) := fun k _ _ => by unfold radomeref01_Cmp.f; exact (LeO.bind (radomeref01_Sub.mono k _ _) fun _ => LeO.bind (radomeref01_Sign.mono k _) fun _ => LeO.refl _)
set_option maxRecDepth 100000 in
set_option maxHeartbeats 2000000 in
theorem radomeref01_Cmp.calls (k : Nat) {H : Hp} {L : Items} {a : radomeref01_Num} {b : radomeref01_Num} {v0_a : Value} {v1_b : Value} {r : Int} (he : radomeref01_Cmp.f k a b = some r) (h0_a : Ro (Kd.int .i64) H v0_a a.f_D) (h1_b : Ro (Kd.int .i64) H v1_b b.f_D) : Ct Tryd.prog 55 ⟨[.agg ⟨[.bool a.f_Neg, v0_a]⟩, .agg ⟨[.bool b.f_Neg, v1_b]⟩]⟩ H L (fun v H' L' => L = L' ∧ H = H' ∧ v = .int .i64 r) := by
 refine ct_outs (O := radomeref01_Cmp.out r) (fun _ _ h => h) ?_
 have hle : H.le H := .refl _
 unfold radomeref01_Cmp.f at he
 refine ct_enter (args := [.agg ⟨[.bool a.f_Neg, v0_a]⟩, .agg ⟨[.bool b.f_Neg, v1_b]⟩]) fn_55 rfl nt_55 rfl ?_
 refine w_seq ?_
 refine w_region rfl ?_
 refine w_a rfl (o_box (v := .agg ⟨[.bool a.f_Neg, v0_a]⟩) rfl rfl) ?_
 rintro _ _ _ ⟨b1, rfl, rfl, rfl⟩
 refine w_a rfl (o_box (v := .agg ⟨[.bool b.f_Neg, v1_b]⟩) rfl rfl) ?_
 rintro _ _ _ ⟨b2, rfl, rfl, rfl⟩
 refine w_d rfl (d_assign (v := .int .i64 0) rfl) ?_
 refine w_done ?_
 refine w_seq ?_
 refine w_region rfl ?_
 refine w_d rfl (d_loado (v := .agg ⟨[.bool a.f_Neg, v0_a]⟩) ty43 rfl (.there .here) rfl rfl rfl rfl) ?_
 refine w_d rfl (d_loado (v := .agg ⟨[.bool b.f_Neg, v1_b]⟩) ty43 rfl .here rfl rfl rfl rfl) ?_
 obtain ⟨y3, hy4, he⟩ := Option.bind_eq_some_iff.1 he
 refine w_a rfl (o_call co66 (vs := [.agg ⟨[.bool a.f_Neg, v0_a]⟩, .agg ⟨[.bool b.f_Neg, v1_b]⟩]) rfl (radomeref01_Sub.calls k (a := (⟨a.f_Neg, a.f_D⟩ : radomeref01_Num)) (b := (⟨b.f_Neg, b.f_D⟩ : radomeref01_Num)) hy4 h0_a h1_b)) ?_
 rintro _ H5 _ ⟨rfl, e6, ⟨v7, rfl, h8⟩⟩
 obtain ⟨y9, hy10, he⟩ := Option.bind_eq_some_iff.1 he
 refine w_d rfl (call_d (o_call co21 (vs := [.agg ⟨[.bool y3.f_Neg, v7]⟩]) rfl (radomeref01_Sign.calls k (a := (⟨y3.f_Neg, y3.f_D⟩ : radomeref01_Num)) hy10 h8))) ?_
 refine w_d rfl (d_assign (v := .int .i64 y9) rfl) ?_
 refine w_done ?_
 obtain rfl := Option.some.inj he
 refine w_return fn_55 rs_55 (.tmp (v := .int .i64 y9) rfl .nil) ?_
 exact ⟨⟨[_, _], rfl⟩, hle.trans e6, rfl⟩
/-! ### radome/radomeref02.Round -/
noncomputable def radomeref02_Round.C : Code := (Tryd.f43.body).getD .skip
def radomeref02_Round.out (r : radomeref01_Num) (H : Hp) (v : Value) : Prop := ∃ v0, v = .agg ⟨[.bool r.f_Neg, v0]⟩ ∧ Ro (Kd.int .i64) H v0 r.f_D
theorem radomeref02_Round.out_mono (r : radomeref01_Num) {H H' : Hp} {v : Value} (hle : H.le H') (h : radomeref02_Round.out r H v) : radomeref02_Round.out r H' v := by
 obtain ⟨v0, rfl, h0⟩ := h; exact ⟨v0, rfl, h0.mono hle⟩
abbrev radomeref02_Round.R (H0 : Hp) (L : Items) (r : radomeref01_Num) : Value → Hp → Items → Prop := fun v H' L' => (∃ p, L' = p ++ L) ∧ H0.le H' ∧ radomeref02_Round.out r H' v
noncomputable def radomeref02_Round.f (k : Nat) (n : radomeref01_Num) (d : radomeref01_Num) : Option radomeref01_Num := (radomeref01_Div.f k (⟨n.f_Neg, n.f_D⟩ : radomeref01_Num) (⟨d.f_Neg, d.f_D⟩ : radomeref01_Num)).bind fun y4 => (radomeref01_Add.f k (⟨y4.2.f_Neg, y4.2.f_D⟩ : radomeref01_Num) (⟨y4.2.f_Neg, y4.2.f_D⟩ : radomeref01_Num)).bind fun y14 => (radomeref01_Cmp.f k (⟨y14.f_Neg, y14.f_D⟩ : radomeref01_Num) (⟨d.f_Neg, d.f_D⟩ : radomeref01_Num)).bind fun y22 => (radomeref01_Of.f k 2).bind fun y26 => (radomeref01_Div.f k (⟨y4.1.f_Neg, y4.1.f_D⟩ : radomeref01_Num) (⟨y26.f_Neg, y26.f_D⟩ : radomeref01_Num)).bind fun y32 => (gd ((!(decide (0 < y22))) && (decide (y22 = 0))) (radomeref01_Sign.f k (⟨y32.2.f_Neg, y32.2.f_D⟩ : radomeref01_Num)) (0)).bind fun y61 => if ((decide (0 < y22)) || ((decide (y22 = 0)) && (!decide (y61 = 0)))) = true then ((radomeref01_Of.f k 1).bind fun y68 => (radomeref01_Add.f k (⟨y4.1.f_Neg, y4.1.f_D⟩ : radomeref01_Num) (⟨y68.f_Neg, y68.f_D⟩ : radomeref01_Num)).bind fun y76 => some ((⟨y76.f_Neg, y76.f_D⟩ : radomeref01_Num))) else (some ((⟨y4.1.f_Neg, y4.1.f_D⟩ : radomeref01_Num)))
theorem radomeref02_Round.mono : ∀ k y0 y1, LeO (radomeref02_Round.f k y0 y1) (radomeref02_Round.f (k + 1) y0 y1) := fun k _ _ => by unfold radomeref02_Round.f; exact (LeO.bind (radomeref01_Div.mono k _ _) fun _ => LeO.bind (radomeref01_Add.mono k _ _) fun _ => LeO.bind (radomeref01_Cmp.mono k _ _) fun _ => LeO.bind (radomeref01_Of.mono k _) fun _ => LeO.bind (radomeref01_Div.mono k _ _) fun _ => LeO.bind (LeO.gd (radomeref01_Sign.mono k _)) fun _ => LeO.ite (LeO.bind (radomeref01_Of.mono k _) fun _ => LeO.bind (radomeref01_Add.mono k _ _) fun _ => LeO.refl _) (LeO.refl _))
set_option maxRecDepth 100000 in
set_option maxHeartbeats 2000000 in
theorem radomeref02_Round.calls (k : Nat) {H : Hp} {L : Items} {n : radomeref01_Num} {d : radomeref01_Num} {v0_n : Value} {v1_d : Value} {r : radomeref01_Num} (he : radomeref02_Round.f k n d = some r) (h0_n : Ro (Kd.int .i64) H v0_n n.f_D) (h1_d : Ro (Kd.int .i64) H v1_d d.f_D) : Ct Tryd.prog 43 ⟨[.agg ⟨[.bool n.f_Neg, v0_n]⟩, .agg ⟨[.bool d.f_Neg, v1_d]⟩]⟩ H L (fun v H' L' => L = L' ∧ H.le H' ∧ radomeref02_Round.out r H' v) := by
 refine ct_out (O := radomeref02_Round.out r) ?_
 have hle : H.le H := .refl _
 unfold radomeref02_Round.f at he
 refine ct_enter (args := [.agg ⟨[.bool n.f_Neg, v0_n]⟩, .agg ⟨[.bool d.f_Neg, v1_d]⟩]) fn_43 rfl nt_43 rfl ?_
 refine w_seq ?_
 refine w_region rfl ?_
 refine w_a rfl (o_box (v := .agg ⟨[.bool n.f_Neg, v0_n]⟩) rfl rfl) ?_
 rintro _ _ _ ⟨b1, rfl, rfl, rfl⟩
 refine w_a rfl (o_box (v := .agg ⟨[.bool d.f_Neg, v1_d]⟩) rfl rfl) ?_
 rintro _ _ _ ⟨b2, rfl, rfl, rfl⟩
 refine w_a rfl (o_alloc zr43 rfl) ?_
 rintro _ _ _ ⟨b3, rfl, rfl, rfl⟩
 refine w_done ?_
 refine w_seq ?_
 refine w_region rfl ?_
 refine w_d rfl (d_loado (v := .agg ⟨[.bool n.f_Neg, v0_n]⟩) ty43 rfl (.there (.there .here)) rfl rfl rfl rfl) ?_
 refine w_d rfl (d_loado (v := .agg ⟨[.bool d.f_Neg, v1_d]⟩) ty43 rfl (.there .here) rfl rfl rfl rfl) ?_
 obtain ⟨y4, hy5, he⟩ := Option.bind_eq_some_iff.1 he
 refine w_a rfl (o_call co54 (vs := [.agg ⟨[.bool n.f_Neg, v0_n]⟩, .agg ⟨[.bool d.f_Neg, v1_d]⟩]) rfl (radomeref01_Div.calls k (a := (⟨n.f_Neg, n.f_D⟩ : radomeref01_Num)) (b := (⟨d.f_Neg, d.f_D⟩ : radomeref01_Num)) hy5 h0_n h1_d)) ?_
 rintro _ H6 _ ⟨rfl, e7, ⟨v8, v10, rfl, h9, h11⟩⟩
 refine w_d rfl (d_move (v := .tuple ⟨[.agg ⟨[.bool y4.1.f_Neg, v8]⟩, .agg ⟨[.bool y4.2.f_Neg, v10]⟩]⟩) rfl) ?_
 refine w_d rfl (d_ext (vs := [.agg ⟨[.bool y4.1.f_Neg, v8]⟩, .agg ⟨[.bool y4.2.f_Neg, v10]⟩]) rfl rfl) ?_
 refine w_d rfl (d_ext (vs := [.agg ⟨[.bool y4.1.f_Neg, v8]⟩, .agg ⟨[.bool y4.2.f_Neg, v10]⟩]) rfl rfl) ?_
 refine w_a rfl (o_alloc zr43 rfl) ?_
 rintro _ _ _ ⟨b12, rfl, rfl, rfl⟩
 refine w_a rfl (o_alloc zr43 rfl) ?_
 rintro _ _ _ ⟨b13, rfl, rfl, rfl⟩
 refine w_a0 rfl (o_store (v := .agg ⟨[.bool y4.1.f_Neg, v8]⟩) sz43 rfl rfl rfl rfl (one_cons rfl (one_cons (h9.one) one_nil)) (.there .here) (.here (.here .done))) ?_
 rintro _ _ _ ⟨rfl, rfl, rfl⟩
 refine w_a0 rfl (o_store (v := .agg ⟨[.bool y4.2.f_Neg, v10]⟩) sz43 rfl rfl rfl rfl (one_cons rfl (one_cons (h11.one) one_nil)) .here (.here (.here .done))) ?_
 rintro _ _ _ ⟨rfl, rfl, rfl⟩
 refine w_done ?_
 refine w_seq ?_
 obtain ⟨y14, hy15, he⟩ := Option.bind_eq_some_iff.1 he
 refine w_drawn (p := 4) (tl := [4, 5]) [[], [], [(0, some 16), (1, some 17)], []] [some 16, some 17, some 18, some 19] (fctF [.is (.agg ⟨[.bool y4.2.f_Neg, v10]⟩), .is (.agg ⟨[.bool y4.2.f_Neg, v10]⟩), .of (radomeref01_Add.out y14) (radomeref01_Add.out_mono _), .is (.agg ⟨[.bool d.f_Neg, v1_d]⟩)]) (fun m_ => some (b13, .cells ⟨[.bool y4.2.f_Neg, v10]⟩ 43 (0, 0)) :: some (b12, .cells ⟨[.bool y4.1.f_Neg, v8]⟩ 43 (0, 0)) :: some (b3, .cells ⟨[.bool false, .slice none 0 0]⟩ 43 (0, 0)) :: some (b2, .cells ⟨[.bool d.f_Neg, v1_d]⟩ 43 (0, 0)) :: some (b1, .cells ⟨[.bool n.f_Neg, v0_n]⟩ 43 (0, 0)) :: L) (fun _ => none) mixed (by kernel_rfl) (by kernel_rfl) rfl (fct_mono (by kernel_rfl)) ⟨(by intro H' m_ hH hm_ hu_; refine depK_nil ?_; exact s_d (m_ 0) rfl (d_loado (v := .agg ⟨[.bool y4.2.f_Neg, v10]⟩) ty43 rfl .here rfl rfl rfl rfl) (by exact rfl) rfl), (by intro H' m_ hH hm_ hu_; refine depK_nil ?_; exact s_d (m_ 1) rfl (d_loado (v := .agg ⟨[.bool y4.2.f_Neg, v10]⟩) ty43 rfl .here rfl rfl rfl rfl) (by exact rfl) rfl), (by intro H' m_ hH hm_ hu_; rintro _ rfl _ rfl; refine depK_nil ?_; exact s_k (m_ 2) rfl (o_call co56 (vs := [.agg ⟨[.bool y4.2.f_Neg, v10]⟩, .agg ⟨[.bool y4.2.f_Neg, v10]⟩]) rfl (radomeref01_Add.calls k (a := (⟨y4.2.f_Neg, y4.2.f_D⟩ : radomeref01_Num)) (b := (⟨y4.2.f_Neg, y4.2.f_D⟩ : radomeref01_Num)) hy15 (h11.mono hH) (h11.mono hH))) rfl (by rintro v_ H_ _ ⟨rfl, e_, h_⟩; exact ⟨rfl, e_, h_⟩)), (by intro H' m_ hH hm_ hu_; refine depK_nil ?_; exact s_d (m_ 3) rfl (d_loado (v := .agg ⟨[.bool d.f_Neg, v1_d]⟩) ty43 rfl (.there (.there (.there .here))) rfl rfl rfl rfl) (by exact rfl) rfl), trivial⟩ ?_
 intro H20 e21
 rintro _ _ rfl _ _ rfl _ _ ⟨v18, rfl, h19⟩ _ _ rfl
 obtain ⟨y22, hy23, he⟩ := Option.bind_eq_some_iff.1 he
 refine w_d rfl (call_d (o_call co55 (vs := [.agg ⟨[.bool y14.f_Neg, v18]⟩, .agg ⟨[.bool d.f_Neg, v1_d]⟩]) rfl (radomeref01_Cmp.calls k (a := (⟨y14.f_Neg, y14.f_D⟩ : radomeref01_Num)) (b := (⟨d.f_Neg, d.f_D⟩ : radomeref01_Num)) hy23 h19 (h1_d.mono (e7.trans e21))))) ?_
 refine w_d rfl (d_assign (v := .int .i64 y22) rfl) ?_
 refine w_done ?_
 refine w_seq ?_
 obtain ⟨y26, hy27, he⟩ := Option.bind_eq_some_iff.1 he
 obtain ⟨y32, hy33, he⟩ := Option.bind_eq_some_iff.1 he
 refine w_none (w_none (?_))
 refine w_drawn (p := 9) (tl := [9]) [[], [], [(0, some 22), (1, some 23)], [(2, some 24)], [(3, some 21)], [(3, some 21)], [], [], [(4, some 25), (6, some 8)]] [some 22, some 23, some 24, some 21, some 25, some 26, some 8, some 9, none] (fctF [.is (.agg ⟨[.bool y4.1.f_Neg, v8]⟩), .of (radomeref01_Of.out y26) (radomeref01_Of.out_mono _), .of (radomeref01_Div.out y32) (radomeref01_Div.out_mono _), .of (fun H v => ∃ v40, ∃ v42, v = .tuple ⟨[.agg ⟨[.bool y32.1.f_Neg, v40]⟩, .agg ⟨[.bool y32.2.f_Neg, v42]⟩]⟩ ∧ Ro (Kd.int .i64) H v40 y32.1.f_D ∧ Ro (Kd.int .i64) H v42 y32.2.f_D) (by rintro _ _ _ hle ⟨v40, v42, rfl, h41, h43⟩; exact ⟨v40, v42, rfl, h41.mono hle, h43.mono hle⟩), .of (fun H v => ∃ v44, v = .agg ⟨[.bool y32.1.f_Neg, v44]⟩ ∧ Ro (Kd.int .i64) H v44 y32.1.f_D) (by rintro _ _ _ hle ⟨v44, rfl, h45⟩; exact ⟨v44, rfl, h45.mono hle⟩), .of (fun H v => ∃ v46, v = .agg ⟨[.bool y32.2.f_Neg, v46]⟩ ∧ Ro (Kd.int .i64) H v46 y32.2.f_D) (by rintro _ _ _ hle ⟨v46, rfl, h47⟩; exact ⟨v46, rfl, h47.mono hle⟩), .box 43 [.bool false, .slice none 0 0], .box 43 [.bool false, .slice none 0 0], .st 6 (fun H b it => ∃ v50, it = some (b, .cells ⟨[.bool y32.1.f_Neg, v50]⟩ 43 (0, 0)) ∧ Ro (Kd.int .i64) H v50 y32.1.f_D) (by rintro _ _ _ _ hle ⟨v50, rfl, h51⟩; exact ⟨v50, rfl, h51.mono hle⟩)]) (fun m_ => pk (m_ 8) (m_ 6) :: m_ 7 :: some (b13, .cells ⟨[.bool y4.2.f_Neg, v10]⟩ 43 (0, 0)) :: some (b12, .cells ⟨[.bool y4.1.f_Neg, v8]⟩ 43 (0, 0)) :: some (b3, .cells ⟨[.bool false, .slice none 0 0]⟩ 43 (0, 0)) :: some (b2, .cells ⟨[.bool d.f_Neg, v1_d]⟩ 43 (0, 0)) :: some (b1, .cells ⟨[.bool n.f_Neg, v0_n]⟩ 43 (0, 0)) :: L) (fun _ => none) mixed (by kernel_rfl) (by kernel_rfl) rfl (fct_mono (by kernel_rfl)) ⟨(by intro H' m_ hH hm_ hu_; refine depK_nil ?_; exact s_d (m_ 0) rfl (d_loado (v := .agg ⟨[.bool y4.1.f_Neg, v8]⟩) ty43 rfl (.there (.there (.there .here))) rfl rfl rfl rfl) (by exact rfl) rfl), (by intro H' m_ hH hm_ hu_; refine depK_nil ?_; exact s_k (m_ 1) rfl (o_call co22 (vs := [.int .i64 2]) rfl (radomeref01_Of.calls k hy27)) rfl (by rintro v_ H_ _ ⟨rfl, e_, h_⟩; exact ⟨rfl, e_, h_⟩)), (by intro H' m_ hH hm_ hu_; rintro _ rfl _ ⟨v30, rfl, h31⟩; refine depK_nil ?_; exact s_k (m_ 2) rfl (o_call co54 (vs := [.agg ⟨[.bool y4.1.f_Neg, v8]⟩, .agg ⟨[.bool y26.f_Neg, v30]⟩]) rfl (radomeref01_Div.calls k (a := (⟨y4.1.f_Neg, y4.1.f_D⟩ : radomeref01_Num)) (b := (⟨y26.f_Neg, y26.f_D⟩ : radomeref01_Num)) hy33 (h9.mono (e21.trans hH)) h31)) rfl (by rintro v_ H_ _ ⟨rfl, e_, h_⟩; exact ⟨rfl, e_, h_⟩)), (by intro H' m_ hH hm_ hu_; rintro _ ⟨v36, v38, rfl, h37, h39⟩; refine depK_nil ?_; exact s_d (m_ 3) rfl (d_move (v := .tuple ⟨[.agg ⟨[.bool y32.1.f_Neg, v36]⟩, .agg ⟨[.bool y32.2.f_Neg, v38]⟩]⟩) rfl) (by exact ⟨v36, v38, rfl, h37, h39⟩) rfl), (by intro H' m_ hH hm_ hu_; rintro _ ⟨v40, v42, rfl, h41, h43⟩; refine depK_nil ?_; exact s_d (m_ 4) rfl (d_ext (vs := [.agg ⟨[.bool y32.1.f_Neg, v40]⟩, .agg ⟨[.bool y32.2.f_Neg, v42]⟩]) rfl rfl) (by exact ⟨v40, rfl, h41⟩) rfl), (by intro H' m_ hH hm_ hu_; rintro _ ⟨v40, v42, rfl, h41, h43⟩; refine depK_nil ?_; exact s_d (m_ 5) rfl (d_ext (vs := [.agg ⟨[.bool y32.1.f_Neg, v40]⟩, .agg ⟨[.bool y32.2.f_Neg, v42]⟩]) rfl rfl) (by exact ⟨v42, rfl, h43⟩) rfl), (by intro H' m_ hH hm_ hu_; refine depK_nil ?_; exact s_box hm_ rfl rfl (o_alloc zr43 rfl) rfl (fun _ => (pk_upd (hu_ 8 (by kernel_rfl)))) (by exact fun b_ => ⟨b_, rfl, rfl⟩)), (by intro H' m_ hH hm_ hu_; refine depK_nil ?_; exact s_box hm_ rfl rfl (o_alloc zr43 rfl) rfl (fun _ => (.there .here)) (by exact fun b_ => ⟨b_, rfl, rfl⟩)), (by intro H' m_ hH hm_ hu_; rintro _ ⟨v44, rfl, h45⟩ _ ⟨b48, rfl, hb48_⟩; refine depK_nil ?_; exact s_store2 (Λ' := fun z_ => z_ :: m_ 7 :: some (b13, .cells ⟨[.bool y4.2.f_Neg, v10]⟩ 43 (0, 0)) :: some (b12, .cells ⟨[.bool y4.1.f_Neg, v8]⟩ 43 (0, 0)) :: some (b3, .cells ⟨[.bool false, .slice none 0 0]⟩ 43 (0, 0)) :: some (b2, .cells ⟨[.bool d.f_Neg, v1_d]⟩ 43 (0, 0)) :: some (b1, .cells ⟨[.bool n.f_Neg, v0_n]⟩ 43 (0, 0)) :: L) (some (b48, .cells ⟨[.bool y32.1.f_Neg, v44]⟩ 43 (0, 0))) hm_ rfl hb48_ rfl (o_store (v := .agg ⟨[.bool y32.1.f_Neg, v44]⟩) sz43 rfl rfl rfl rfl (one_cons rfl (one_cons (h45.one) one_nil)) .here (.here (.here .done))) rfl rfl (by exact ⟨rfl, v44, congrArg (fun b_ => (some (b_, Obj.cells ⟨[.bool y32.1.f_Neg, v44]⟩ 43 (0, 0)) : Item')) (bof_eq hb48_).symm, h45⟩)), trivial⟩ ?_
 intro H54 e55
 rintro _ _ rfl _ _ ⟨v30, rfl, h31⟩ _ _ ⟨v36, v38, rfl, h37, h39⟩ _ _ ⟨v40, v42, rfl, h41, h43⟩ _ _ ⟨v44, rfl, h45⟩ _ _ ⟨v46, rfl, h47⟩ _ _ ⟨b48, rfl, rfl⟩ _ _ ⟨b49, rfl, rfl⟩ _ i52 ⟨rfl, v50, h53, h51⟩
 replace h53 : i52 = some (b48, .cells ⟨[.bool y32.1.f_Neg, v50]⟩ 43 (0, 0)) := h53
 subst h53
 refine w_it (L' := some (b48, .cells ⟨[.bool y32.1.f_Neg, v50]⟩ 43 (0, 0)) :: some (b49, .cells ⟨[.bool false, .slice none 0 0]⟩ 43 (0, 0)) :: some (b13, .cells ⟨[.bool y4.2.f_Neg, v10]⟩ 43 (0, 0)) :: some (b12, .cells ⟨[.bool y4.1.f_Neg, v8]⟩ 43 (0, 0)) :: some (b3, .cells ⟨[.bool false, .slice none 0 0]⟩ 43 (0, 0)) :: some (b2, .cells ⟨[.bool d.f_Neg, v1_d]⟩ 43 (0, 0)) :: some (b1, .cells ⟨[.bool n.f_Neg, v0_n]⟩ 43 (0, 0)) :: L) rfl ?_
 refine w_a0 rfl (o_store (v := .agg ⟨[.bool y32.2.f_Neg, v46]⟩) sz43 rfl rfl rfl rfl (one_cons rfl (one_cons (h47.one) one_nil)) (.there .here) (.here (.here .done))) ?_
 rintro _ _ _ ⟨rfl, rfl, rfl⟩
 refine w_done ?_
 refine w_seq ?_
 refine w_seq ?_
 refine w_region rfl ?_
 refine w_d rfl (d_move (v := .int .i64 y22) rfl) ?_
 refine w_d rfl (d_gtr rfl rfl) ?_
 refine w_d rfl (d_move (v := .bool (decide (0 < y22))) rfl) ?_
 refine w_g (g := !(decide (0 < y22))) rfl rfl rfl wn_f (fun g56 => d_move (v := .int .i64 y22) rfl) ?_
 refine w_g (g := !(decide (0 < y22))) rfl rfl rfl wn_f (fun g57 => d_eql (cvt g57) rfl) ?_
 refine w_g (g := !(decide (0 < y22))) rfl rfl rfl wn_f (fun g58 => d_move (v := .bool (decide (y22 = 0))) (cvt g58)) ?_
 refine w_g (g := (!(decide (0 < y22))) && (decide (y22 = 0))) rfl rfl rfl wn_gt (fun g59 => d_loado (v := .agg ⟨[.bool y32.2.f_Neg, v46]⟩) ty43 rfl (.there .here) rfl rfl rfl rfl) ?_
 obtain ⟨y61, hy62, he⟩ := Option.bind_eq_some_iff.1 he
 refine w_g (g := (!(decide (0 < y22))) && (decide (y22 = 0))) rfl rfl rfl wn_gt (fun g60 => call_d (o_call co21 (vs := [.agg ⟨[.bool y32.2.f_Neg, v46]⟩]) (acons (cvt g60) (anil)) (radomeref01_Sign.calls k (a := (⟨y32.2.f_Neg, y32.2.f_D⟩ : radomeref01_Num)) (gd_t g60 hy62) h47))) ?_
 refine w_g (g := (!(decide (0 < y22))) && (decide (y22 = 0))) rfl rfl rfl wn_gt (fun g65 => d_neq (cvt g65) rfl) ?_
 refine w_g (g := !(decide (0 < y22))) rfl rfl rfl wn_f (fun g66 => d_and' (b := (decide (y22 = 0))) (p := (!decide (y61 = 0))) (cvt g66) (cva g66) rfl) ?_
 refine w_d rfl (d_or' (b := (decide (0 < y22))) (p := ((decide (y22 = 0)) && (!decide (y61 = 0)))) rfl rfl rfl) ?_
 refine w_done ?_
 rcases its he with ⟨c67, he⟩ | ⟨c67, he⟩
 ·
  refine w_then rfl c67 ?_
  refine w_seq ?_
  obtain ⟨y68, hy69, he⟩ := Option.bind_eq_some_iff.1 he
  refine w_drawn (p := 2) (tl := [2, 3]) [[], []] [some 38, some 39] (fctF [.is (.agg ⟨[.bool y4.1.f_Neg, v8]⟩), .of (radomeref01_Of.out y68) (radomeref01_Of.out_mono _)]) (fun m_ => some (b48, .cells ⟨[.bool y32.1.f_Neg, v50]⟩ 43 (0, 0)) :: some (b49, .cells ⟨[.bool y32.2.f_Neg, v46]⟩ 43 (0, 0)) :: some (b13, .cells ⟨[.bool y4.2.f_Neg, v10]⟩ 43 (0, 0)) :: some (b12, .cells ⟨[.bool y4.1.f_Neg, v8]⟩ 43 (0, 0)) :: some (b3, .cells ⟨[.bool false, .slice none 0 0]⟩ 43 (0, 0)) :: some (b2, .cells ⟨[.bool d.f_Neg, v1_d]⟩ 43 (0, 0)) :: some (b1, .cells ⟨[.bool n.f_Neg, v0_n]⟩ 43 (0, 0)) :: L) (fun _ => none) mixed (by kernel_rfl) (by kernel_rfl) rfl (fct_mono (by kernel_rfl)) ⟨(by intro H' m_ hH hm_ hu_; refine depK_nil ?_; exact s_d (m_ 0) rfl (d_loado (v := .agg ⟨[.bool y4.1.f_Neg, v8]⟩) ty43 rfl (.there (.there (.there .here))) rfl rfl rfl rfl) (by exact rfl) rfl), (by intro H' m_ hH hm_ hu_; refine depK_nil ?_; exact s_k (m_ 1) rfl (o_call co22 (vs := [.int .i64 1]) rfl (radomeref01_Of.calls k hy69)) rfl (by rintro v_ H_ _ ⟨rfl, e_, h_⟩; exact ⟨rfl, e_, h_⟩)), trivial⟩ ?_
  intro H74 e75
  rintro _ _ rfl _ _ ⟨v72, rfl, h73⟩
  obtain ⟨y76, hy77, he⟩ := Option.bind_eq_some_iff.1 he
  refine w_a rfl (o_call co56 (vs := [.agg ⟨[.bool y4.1.f_Neg, v8]⟩, .agg ⟨[.bool y68.f_Neg, v72]⟩]) rfl (radomeref01_Add.calls k (a := (⟨y4.1.f_Neg, y4.1.f_D⟩ : radomeref01_Num)) (b := (⟨y68.f_Neg, y68.f_D⟩ : radomeref01_Num)) hy77 (h9.mono ((e21.trans e55).trans e75)) h73)) ?_
  rintro _ H78 _ ⟨rfl, e79, ⟨v80, rfl, h81⟩⟩
  refine w_a0 rfl (o_store (v := .agg ⟨[.bool y76.f_Neg, v80]⟩) sz43 rfl rfl rfl rfl (one_cons rfl (one_cons (h81.one) one_nil)) (.there (.there (.there (.there .here)))) (.here (.here .done))) ?_
  rintro _ _ _ ⟨rfl, rfl, rfl⟩
  refine w_done ?_
  obtain rfl := Option.some.inj he
  refine w_return fn_43 rs_43 (.box (v := .agg ⟨[.bool y76.f_Neg, v80]⟩) rfl ty43 rfl rfl (.there (.there (.there (.there .here)))) rfl .nil) ?_
  exact ⟨⟨[_, _, _, _, _, _, _], rfl⟩, hle.trans ((((e7.trans e21).trans e55).trans e75).trans e79), ⟨v80, rfl, h81⟩⟩
 ·
  refine w_else rfl (Bool.eq_false_iff.2 c67) ?_
  refine w_skip ?_
  refine w_seq ?_
  refine w_region rfl ?_
  refine w_d rfl (d_loado (v := .agg ⟨[.bool y4.1.f_Neg, v8]⟩) ty43 rfl (.there (.there (.there .here))) rfl rfl rfl rfl) ?_
  refine w_a0 rfl (o_store (v := .agg ⟨[.bool y4.1.f_Neg, v8]⟩) sz43 rfl rfl rfl rfl (one_cons rfl (one_cons (h9.one) one_nil)) (.there (.there (.there (.there .here)))) (.here (.here .done))) ?_
  rintro _ _ _ ⟨rfl, rfl, rfl⟩
  refine w_done ?_
  obtain rfl := Option.some.inj he
  refine w_return fn_43 rs_43 (.box (v := .agg ⟨[.bool y4.1.f_Neg, v8]⟩) rfl ty43 rfl rfl (.there (.there (.there (.there .here)))) rfl .nil) ?_
  exact ⟨⟨[_, _, _, _, _, _, _], rfl⟩, hle.trans ((e7.trans e21).trans e55), ⟨v8, rfl, (h9.mono (e21.trans e55))⟩⟩
/-! ### radome/radomeref04.Radians -/
noncomputable def radomeref04_Radians.C : Code := (Tryd.f20.body).getD .skip
def radomeref04_Radians.out (r : radomeref01_Num) (H : Hp) (v : Value) : Prop := ∃ v0, v = .agg ⟨[.bool r.f_Neg, v0]⟩ ∧ Ro (Kd.int .i64) H v0 r.f_D
theorem radomeref04_Radians.out_mono (r : radomeref01_Num) {H H' : Hp} {v : Value} (hle : H.le H') (h : radomeref04_Radians.out r H v) : radomeref04_Radians.out r H' v := by
 obtain ⟨v0, rfl, h0⟩ := h; exact ⟨v0, rfl, h0.mono hle⟩
abbrev radomeref04_Radians.R (H0 : Hp) (L : Items) (r : radomeref01_Num) : Value → Hp → Items → Prop := fun v H' L' => (∃ p, L' = p ++ L) ∧ H0.le H' ∧ radomeref04_Radians.out r H' v
noncomputable def radomeref04_Radians.f (k : Nat) (t : Int) (bits : Int) : Option radomeref01_Num := (radomeref01_Of.f k t).bind fun y2 => (radomeref01_Of.f k 3622009729038561421).bind fun y8 => (radomeref01_Mul.f k (⟨y2.f_Neg, y2.f_D⟩ : radomeref01_Num) (⟨y8.f_Neg, y8.f_D⟩ : radomeref01_Num)).bind fun y14 => (radomeref01_Two.f k (w64 (91 - bits))).bind fun y20 => (radomeref02_Round.f k (⟨y14.f_Neg, y14.f_D⟩ : radomeref01_Num) (⟨y20.f_Neg, y20.f_D⟩ : radomeref01_Num)).bind fun y26 => some ((⟨y26.f_Neg, y26.f_D⟩ : radomeref01_Num))
theorem radomeref04_Radians.mono : ∀ k y0 y1, LeO (radomeref04_Radians.f k y0 y1) (radomeref04_Radians.f (k + 1) y0 y1) := fun k _ _ => by unfold radomeref04_Radians.f; exact (LeO.bind (radomeref01_Of.mono k _) fun _ => LeO.bind (radomeref01_Of.mono k _) fun _ => LeO.bind (radomeref01_Mul.mono k _ _) fun _ => LeO.bind (radomeref01_Two.mono k _) fun _ => LeO.bind (radomeref02_Round.mono k _ _) fun _ => LeO.refl _)
set_option maxRecDepth 100000 in
set_option maxHeartbeats 2000000 in
theorem radomeref04_Radians.calls (k : Nat) {H : Hp} {L : Items} {t : Int} {bits : Int} {r : radomeref01_Num} (he : radomeref04_Radians.f k t bits = some r) : Ct Tryd.prog 20 ⟨[.int .i64 t, .int .i64 bits]⟩ H L (fun v H' L' => L = L' ∧ H.le H' ∧ radomeref04_Radians.out r H' v) := by
 refine ct_out (O := radomeref04_Radians.out r) ?_
 have hle : H.le H := .refl _
 unfold radomeref04_Radians.f at he
 refine ct_enter (args := [.int .i64 t, .int .i64 bits]) fn_20 rfl nt_20 rfl ?_
 refine w_seq ?_
 refine w_region rfl ?_
 refine w_a rfl (o_alloc zr43 rfl) ?_
 rintro _ _ _ ⟨b1, rfl, rfl, rfl⟩
 refine w_done ?_
 refine w_seq ?_
 refine w_region rfl ?_
 refine w_d rfl (d_move (v := .int .i64 t) rfl) ?_
 obtain ⟨y2, hy3, he⟩ := Option.bind_eq_some_iff.1 he
 refine w_a rfl (o_call co22 (vs := [.int .i64 t]) rfl (radomeref01_Of.calls k hy3)) ?_
 rintro _ H4 _ ⟨rfl, e5, ⟨v6, rfl, h7⟩⟩
 obtain ⟨y8, hy9, he⟩ := Option.bind_eq_some_iff.1 he
 refine w_a rfl (o_call co22 (vs := [.int .i64 3622009729038561421]) rfl (radomeref01_Of.calls k hy9)) ?_
 rintro _ H10 _ ⟨rfl, e11, ⟨v12, rfl, h13⟩⟩
 obtain ⟨y14, hy15, he⟩ := Option.bind_eq_some_iff.1 he
 refine w_a rfl (o_call co44 (vs := [.agg ⟨[.bool y2.f_Neg, v6]⟩, .agg ⟨[.bool y8.f_Neg, v12]⟩]) rfl (radomeref01_Mul.calls k (a := (⟨y2.f_Neg, y2.f_D⟩ : radomeref01_Num)) (b := (⟨y8.f_Neg, y8.f_D⟩ : radomeref01_Num)) hy15 (h7.mono e11) h13)) ?_
 rintro _ H16 _ ⟨rfl, e17, ⟨v18, rfl, h19⟩⟩
 refine w_d rfl (d_move (v := .int .i64 bits) rfl) ?_
 refine w_d rfl (d_sub (c := w64 (91 - bits)) rfl rfl rfl) ?_
 obtain ⟨y20, hy21, he⟩ := Option.bind_eq_some_iff.1 he
 refine w_a rfl (o_call co45 (vs := [.int .i64 (w64 (91 - bits))]) rfl (radomeref01_Two.calls k hy21)) ?_
 rintro _ H22 _ ⟨rfl, e23, ⟨v24, rfl, h25⟩⟩
 obtain ⟨y26, hy27, he⟩ := Option.bind_eq_some_iff.1 he
 refine w_a rfl (o_call co43 (vs := [.agg ⟨[.bool y14.f_Neg, v18]⟩, .agg ⟨[.bool y20.f_Neg, v24]⟩]) rfl (radomeref02_Round.calls k (n := (⟨y14.f_Neg, y14.f_D⟩ : radomeref01_Num)) (d := (⟨y20.f_Neg, y20.f_D⟩ : radomeref01_Num)) hy27 (h19.mono e23) h25)) ?_
 rintro _ H28 _ ⟨rfl, e29, ⟨v30, rfl, h31⟩⟩
 refine w_a0 rfl (o_store (v := .agg ⟨[.bool y26.f_Neg, v30]⟩) sz43 rfl rfl rfl rfl (one_cons rfl (one_cons (h31.one) one_nil)) .here (.here (.here .done))) ?_
 rintro _ _ _ ⟨rfl, rfl, rfl⟩
 refine w_done ?_
 obtain rfl := Option.some.inj he
 refine w_return fn_20 rs_20 (.box (v := .agg ⟨[.bool y26.f_Neg, v30]⟩) rfl ty43 rfl rfl .here rfl .nil) ?_
 exact ⟨⟨[_], rfl⟩, hle.trans ((((e5.trans e11).trans e17).trans e23).trans e29), ⟨v30, rfl, h31⟩⟩
/-! ### radome/radomeref03.Small -/
noncomputable def radomeref03_Small.C : Code := (Tryd.f19.body).getD .skip
def radomeref03_Small.out (r : Int) (H : Hp) (v : Value) : Prop := v = .int .i64 r
abbrev radomeref03_Small.R (H0 : Hp) (L : Items) (r : Int) : Value → Hp → Items → Prop := fun v H' L' => (∃ p, L' = p ++ L) ∧ H0.le H' ∧ radomeref03_Small.out r H' v
structure radomeref03_Small.Hs where
 l0 : Bool → (List Int) → Int → Int → Option Int
noncomputable def radomeref03_Small.b0 (k : Nat) (h : radomeref03_Small.Hs)  (n_0 : Bool) (n_1 : List Int) (v_ : Int) (i : Int) : Option Int := if 0 ≤ i then (if 0 ≤ i ∧ i < (n_1.length : Int) then (h.l0 n_0 n_1 (w64 ((w64 (10 * v_)) - (rd n_1 i))) (w64 (i - 1))) else none) else (if n_0 = true then (some (v_)) else (some (w64 (0 - v_))))
noncomputable def radomeref03_Small.hs : Nat → radomeref03_Small.Hs
 | 0 => ⟨fun _ _ _ _ => none⟩
 | k + 1 => ⟨fun x0 x1 x2 x3 => radomeref03_Small.b0 k (radomeref03_Small.hs k) x0 x1 x2 x3⟩
noncomputable def radomeref03_Small.f (k : Nat) (n : radomeref01_Num) : Option Int := (fun h : radomeref03_Small.Hs => h.l0 n.f_Neg n.f_D 0 (w64 ((n.f_D.length : Int) - 1))) (radomeref03_Small.hs k)
structure radomeref03_Small.LE (h h' : radomeref03_Small.Hs) : Prop where
 l0 : ∀ y0 y1 y2 y3, LeO (h.l0 y0 y1 y2 y3) (h'.l0 y0 y1 y2 y3)
theorem radomeref03_Small.b0_mono {k : Nat} {h h' : radomeref03_Small.Hs} (hl : radomeref03_Small.LE h h') : ∀ y0 y1 y2 y3, LeO (radomeref03_Small.b0 k h y0 y1 y2 y3) (radomeref03_Small.b0 (k + 1) h' y0 y1 y2 y3) := fun _ _ _ _ => (LeO.ite (LeO.ite (hl.l0 _ _ _ _) (LeO.refl _)) (LeO.ite (LeO.refl _) (LeO.refl _)))
theorem radomeref03_Small.hs_mono : ∀ k, radomeref03_Small.LE (radomeref03_Small.hs k) (radomeref03_Small.hs (k + 1))
 | 0 => ⟨fun _ _ _ _ => LeO.none _⟩
 | k + 1 => ⟨radomeref03_Small.b0_mono (k := k) (radomeref03_Small.hs_mono k)⟩
theorem radomeref03_Small.mono : ∀ k y0, LeO (radomeref03_Small.f k y0) (radomeref03_Small.f (k + 1) y0) := fun k _ => have hl := radomeref03_Small.hs_mono k; by unfold radomeref03_Small.f; exact (hl.l0 _ _ _ _)
noncomputable def radomeref03_Small.Kl0 : List Item := .code (lopB (blkB (seqR (seqL (seqR (seqR radomeref03_Small.C)))))) :: .inLoop (lopB (blkB (seqR (seqL (seqR (seqR radomeref03_Small.C)))))) :: .inBlock 0 :: .code (seqR (seqR (seqR radomeref03_Small.C))) :: []
structure radomeref03_Small.OK (h : radomeref03_Small.Hs) : Prop where
 l0 : ∀ {H0 H : Hp} {L : Items} {r : Int} {jk_ : Nat → Value} {n_0 : Bool} {n_1 : List Int} {v_ : Int} {i : Int} {v_n_1 : Value} {b_n : Nat} (_ : H0.le H) (_he : h.l0 n_0 n_1 v_ i = some r) (_h_n_1 : Ro (Kd.int .i64) H v_n_1 n_1), Wp Tryd.prog 19 26 radomeref03_Small.Kl0 (upd (upd (upd (upd jk_ 1 (.pointer (some ⟨b_n, 0, none⟩))) 2 (.int .i64 0)) 3 (.int .i64 v_)) 4 (.int .i64 i)) H (some (b_n, .cells ⟨[.bool n_0, v_n_1]⟩ 43 (0, 0)) :: L) (radomeref03_Small.R H0 L r)
set_option maxRecDepth 100000 in
set_option maxHeartbeats 2000000 in
theorem radomeref03_Small.b0_ok {k : Nat} {h : radomeref03_Small.Hs} (hh : radomeref03_Small.OK h) {H0 H : Hp} {L : Items} {r : Int} {jk_ : Nat → Value} {n_0 : Bool} {n_1 : List Int} {v_ : Int} {i : Int} {v_n_1 : Value} {b_n : Nat} (hle : H0.le H) (he : radomeref03_Small.b0 k h n_0 n_1 v_ i = some r) (h_n_1 : Ro (Kd.int .i64) H v_n_1 n_1) : Wp Tryd.prog 19 26 radomeref03_Small.Kl0 (upd (upd (upd (upd jk_ 1 (.pointer (some ⟨b_n, 0, none⟩))) 2 (.int .i64 0)) 3 (.int .i64 v_)) 4 (.int .i64 i)) H (some (b_n, .cells ⟨[.bool n_0, v_n_1]⟩ 43 (0, 0)) :: L) (radomeref03_Small.R H0 L r) := by
 unfold radomeref03_Small.b0 at he
 unfold radomeref03_Small.Kl0
 refine w_seq ?_
 refine w_seq ?_
 refine w_region rfl ?_
 refine w_d rfl (d_move (v := .int .i64 i) rfl) ?_
 refine w_d rfl (d_geq rfl rfl) ?_
 refine w_done ?_
 rcases its he with ⟨c2, he⟩ | ⟨c2, he⟩
 ·
  refine w_then rfl (decide_eq_true c2) ?_
  refine w_skip ?_
  refine w_seq ?_
  refine w_block ?_
  refine w_region rfl ?_
  refine w_d rfl (d_move (v := .int .i64 v_) rfl) ?_
  refine w_d rfl (d_mul (c := w64 (10 * v_)) rfl rfl rfl) ?_
  refine w_d rfl (d_fld (o' := 1) Tryd.underlying43 rfl sz41 rfl rfl rfl) ?_
  refine w_d rfl (d_loado (v := v_n_1) ty41 rfl .here rfl rfl rfl rfl) ?_
  refine w_d rfl (d_move (v := .int .i64 i) rfl) ?_
  obtain ⟨c3, he⟩ := rq he
  refine w_d rfl (d_index (sz := 1) Tryd.underlying41 sz3 rfl h_n_1.src rfl c3) ?_
  refine w_d rfl (d_ldint ty3 rfl h_n_1.src c3) ?_
  refine w_d rfl (d_sub (c := w64 ((w64 (10 * v_)) - (rd n_1 i))) rfl rfl rfl) ?_
  refine w_d rfl (d_assign (v := .int .i64 (w64 ((w64 (10 * v_)) - (rd n_1 i)))) rfl) ?_
  refine w_done ?_
  refine w_inBlock ?_
  refine w_region rfl ?_
  refine w_d rfl (d_move (v := .int .i64 i) rfl) ?_
  refine w_d rfl (d_sub (c := w64 (i - 1)) rfl rfl rfl) ?_
  refine w_d rfl (d_assign (v := .int .i64 (w64 (i - 1))) rfl) ?_
  refine w_done ?_
  refine w_inLoop ?_
  refine w_sl 1 (.pointer (some ⟨b_n, 0, none⟩)) rfl ?_
  refine w_sl 2 (.int .i64 0) rfl ?_
  refine w_sl 3 (.int .i64 (w64 ((w64 (10 * v_)) - (rd n_1 i)))) rfl ?_
  refine w_sl 4 (.int .i64 (w64 (i - 1))) rfl ?_
  exact hh.l0 hle he h_n_1
 ·
  refine w_else rfl (decide_eq_false c2) ?_
  refine w_exit rfl ?_
  refine w_seq ?_
  refine w_seq ?_
  refine w_region rfl ?_
  refine w_d rfl (d_fld (o' := 0) Tryd.underlying43 rfl sz4 rfl rfl rfl) ?_
  refine w_d rfl (d_loado (v := .bool n_0) ty4 rfl .here rfl rfl rfl rfl) ?_
  refine w_done ?_
  rcases its he with ⟨c4, he⟩ | ⟨c4, he⟩
  ·
   refine w_then rfl c4 ?_
   refine w_seq ?_
   refine w_region rfl ?_
   refine w_d rfl (d_move (v := .int .i64 v_) rfl) ?_
   refine w_d rfl (d_assign (v := .int .i64 v_) rfl) ?_
   refine w_done ?_
   obtain rfl := Option.some.inj he
   refine w_return fn_19 rs_19 (.tmp (v := .int .i64 v_) rfl .nil) ?_
   exact ⟨⟨[_], rfl⟩, hle, rfl⟩
  ·
   refine w_else rfl (Bool.eq_false_iff.2 c4) ?_
   refine w_skip ?_
   refine w_seq ?_
   refine w_region rfl ?_
   refine w_d rfl (d_move (v := .int .i64 v_) rfl) ?_
   refine w_d rfl (d_sub (c := w64 (0 - v_)) rfl rfl rfl) ?_
   refine w_d rfl (d_assign (v := .int .i64 (w64 (0 - v_))) rfl) ?_
   refine w_done ?_
   obtain rfl := Option.some.inj he
   refine w_return fn_19 rs_19 (.tmp (v := .int .i64 (w64 (0 - v_))) rfl .nil) ?_
   exact ⟨⟨[_], rfl⟩, hle, rfl⟩
theorem radomeref03_Small.ok : ∀ k, radomeref03_Small.OK (radomeref03_Small.hs k)
 | 0 => ⟨(by intros; exact nomatch (show none = some _ from by assumption))⟩
 | k + 1 => ⟨radomeref03_Small.b0_ok (k := k) (radomeref03_Small.ok k)⟩
set_option maxRecDepth 100000 in
set_option maxHeartbeats 2000000 in
theorem radomeref03_Small.calls (k : Nat) {H : Hp} {L : Items} {n : radomeref01_Num} {v0_n : Value} {r : Int} (he : radomeref03_Small.f k n = some r) (h0_n : Ro (Kd.int .i64) H v0_n n.f_D) : Ct Tryd.prog 19 ⟨[.agg ⟨[.bool n.f_Neg, v0_n]⟩]⟩ H L (fun v H' L' => L = L' ∧ H = H' ∧ v = .int .i64 r) := by
 refine ct_outs (O := radomeref03_Small.out r) (fun _ _ h => h) ?_
 have hle : H.le H := .refl _
 have hh := radomeref03_Small.ok k
 unfold radomeref03_Small.f at he
 refine ct_enter (args := [.agg ⟨[.bool n.f_Neg, v0_n]⟩]) fn_19 rfl nt_19 rfl ?_
 refine w_seq ?_
 refine w_region rfl ?_
 refine w_a rfl (o_box (v := .agg ⟨[.bool n.f_Neg, v0_n]⟩) rfl rfl) ?_
 rintro _ _ _ ⟨b1, rfl, rfl, rfl⟩
 refine w_d rfl (d_assign (v := .int .i64 0) rfl) ?_
 refine w_done ?_
 refine w_seq ?_
 refine w_region rfl ?_
 refine w_d rfl (d_assign (v := .int .i64 0) rfl) ?_
 refine w_done ?_
 refine w_seq ?_
 refine w_seq ?_
 refine w_region rfl ?_
 refine w_d rfl (d_fld (o' := 1) Tryd.underlying43 rfl sz41 rfl rfl rfl) ?_
 refine w_d rfl (d_loado (v := v0_n) ty41 rfl .here rfl rfl rfl rfl) ?_
 refine w_d rfl (d_len Tryd.underlying41 rfl h0_n.src) ?_
 refine w_d rfl (d_sub (c := w64 ((n.f_D.length : Int) - 1)) rfl rfl rfl) ?_
 refine w_d rfl (d_assign (v := .int .i64 (w64 ((n.f_D.length : Int) - 1))) rfl) ?_
 refine w_done ?_
 refine w_block ?_
 refine w_loop ?_
 refine w_sl 1 (.pointer (some ⟨b1, 0, none⟩)) rfl ?_
 refine w_sl 2 (.int .i64 0) rfl ?_
 refine w_sl 3 (.int .i64 0) rfl ?_
 refine w_sl 4 (.int .i64 (w64 ((n.f_D.length : Int) - 1))) rfl ?_
 exact hh.l0 hle he h0_n
/-! ### radome/radomelaw04.TurnRadians -/
noncomputable def radomelaw04_TurnRadians.C : Code := (Tryd.f4.body).getD .skip
def radomelaw04_TurnRadians.out (r : Bool) (H : Hp) (v : Value) : Prop := v = .bool r
abbrev radomelaw04_TurnRadians.R (H0 : Hp) (L : Items) (r : Bool) : Value → Hp → Items → Prop := fun v H' L' => (∃ p, L' = p ++ L) ∧ H0.le H' ∧ radomelaw04_TurnRadians.out r H' v
noncomputable def radomelaw04_TurnRadians.f (k : Nat) (t : Int) (bits : Int) : Option Bool := (turn_Radians.f k t bits).bind fun y1 => if ((decide (bits < 0)) || (decide (60 < bits))) = true then ((gd ((decide ((errN y1.2) = 1)) && (decide (y1.1 = 0))) (radomelaw04_sure.f k) (false)).bind fun y11 => some (((decide ((errN y1.2) = 1)) && (decide (y1.1 = 0))) && y11)) else ((gd y1.2.isNone (radomeref04_Radians.f k (w64 (t)) bits) ((⟨false, []⟩ : radomeref01_Num))).bind fun y20 => (gd y1.2.isNone (radomeref03_Small.f k (⟨y20.f_Neg, y20.f_D⟩ : radomeref01_Num)) (0)).bind fun y28 => (gd (y1.2.isNone && (decide (y1.1 = y28))) (radomeref01_Of.f k y1.1) ((⟨false, []⟩ : radomeref01_Num))).bind fun y35 => (gd (y1.2.isNone && (decide (y1.1 = y28))) (radomeref01_Sign.f k (⟨y35.f_Neg, y35.f_D⟩ : radomeref01_Num)) (0)).bind fun y43 => (gd ((y1.2.isNone && (decide (y1.1 = y28))) && (decide (0 ≤ y43))) (radomelaw04_sure.f k) (false)).bind fun y49 => some (((y1.2.isNone && (decide (y1.1 = y28))) && (decide (0 ≤ y43))) && y49))
theorem radomelaw04_TurnRadians.mono : ∀ k y0 y1, LeO (radomelaw04_TurnRadians.f k y0 y1) (radomelaw04_TurnRadians.f (k + 1) y0 y1) := fun k _ _ => by unfold radomelaw04_TurnRadians.f; exact (LeO.bind (turn_Radians.mono k _ _) fun _ => LeO.ite (LeO.bind (LeO.gd (radomelaw04_sure.mono k)) fun _ => LeO.refl _) (LeO.bind (LeO.gd (radomeref04_Radians.mono k _ _)) fun _ => LeO.bind (LeO.gd (radomeref03_Small.mono k _)) fun _ => LeO.bind (LeO.gd (radomeref01_Of.mono k _)) fun _ => LeO.bind (LeO.gd (radomeref01_Sign.mono k _)) fun _ => LeO.bind (LeO.gd (radomelaw04_sure.mono k)) fun _ => LeO.refl _))
set_option maxRecDepth 100000 in
set_option maxHeartbeats 2000000 in
theorem radomelaw04_TurnRadians.calls (k : Nat) {H : Hp} {L : Items} {t : Int} {bits : Int} {r : Bool} (hG : GH H) (he : radomelaw04_TurnRadians.f k t bits = some r) : Ct Tryd.prog 4 ⟨[.int .u32 t, .int .i64 bits]⟩ H L (fun v H' L' => L = L' ∧ H = H' ∧ v = .bool r) := by
 refine ct_outs (O := radomelaw04_TurnRadians.out r) (fun _ _ h => h) ?_
 have hle : H.le H := .refl _
 unfold radomelaw04_TurnRadians.f at he
 refine ct_enter (args := [.int .u32 t, .int .i64 bits]) fn_4 rfl nt_4 rfl ?_
 refine w_seq ?_
 refine w_region rfl ?_
 refine w_d rfl (d_assign (v := .bool false) rfl) ?_
 refine w_done ?_
 refine w_seq ?_
 refine w_region rfl ?_
 refine w_d rfl (d_move (v := .int .u32 t) rfl) ?_
 refine w_d rfl (d_move (v := .int .i64 bits) rfl) ?_
 obtain ⟨y1, hy2, he⟩ := Option.bind_eq_some_iff.1 he
 refine w_d rfl (call_d (o_call co16 (vs := [.int .u32 t, .int .i64 bits]) rfl (turn_Radians.calls k hy2))) ?_
 refine w_d rfl (d_move (v := .tuple ⟨[.int .i64 y1.1, errV 70 y1.2]⟩) rfl) ?_
 refine w_d rfl (d_ext (vs := [.int .i64 y1.1, errV 70 y1.2]) rfl rfl) ?_
 refine w_d rfl (d_ext (vs := [.int .i64 y1.1, errV 70 y1.2]) rfl rfl) ?_
 refine w_d rfl (d_assign (v := .int .i64 y1.1) rfl) ?_
 refine w_d rfl (d_assign (v := errV 70 y1.2) rfl) ?_
 refine w_done ?_
 refine w_seq ?_
 refine w_seq ?_
 refine w_region rfl ?_
 refine w_d rfl (d_move (v := .int .i64 bits) rfl) ?_
 refine w_d rfl (d_lss rfl rfl) ?_
 refine w_d rfl (d_move (v := .bool (decide (bits < 0))) rfl) ?_
 refine w_g (g := !(decide (bits < 0))) rfl rfl rfl wn_f (fun g5 => d_move (v := .int .i64 bits) rfl) ?_
 refine w_g (g := !(decide (bits < 0))) rfl rfl rfl wn_f (fun g6 => d_gtr (cvt g6) rfl) ?_
 refine w_d rfl (d_or' (b := (decide (bits < 0))) (p := (decide (60 < bits))) rfl rfl rfl) ?_
 refine w_done ?_
 rcases its he with ⟨c7, he⟩ | ⟨c7, he⟩
 ·
  refine w_then rfl c7 ?_
  refine w_seq ?_
  refine w_region rfl ?_
  refine w_d rfl (d_move (v := errV 70 y1.2) rfl) ?_
  refine w_d rfl (call_d (o_call co17 (vs := [errV 70 y1.2]) rfl (num17.calls (hG) rfl))) ?_
  refine w_d rfl (d_eql rfl rfl) ?_
  refine w_d rfl (d_move (v := .bool (decide ((errN y1.2) = 1))) rfl) ?_
  refine w_g (g := decide ((errN y1.2) = 1)) rfl rfl rfl wn_t (fun g8 => d_move (v := .int .i64 y1.1) rfl) ?_
  refine w_g (g := decide ((errN y1.2) = 1)) rfl rfl rfl wn_t (fun g9 => d_eql (cvt g9) rfl) ?_
  refine w_d rfl (d_and' (b := (decide ((errN y1.2) = 1))) (p := (decide (y1.1 = 0))) rfl rfl rfl) ?_
  refine w_d rfl (d_move (v := .bool ((decide ((errN y1.2) = 1)) && (decide (y1.1 = 0)))) rfl) ?_
  obtain ⟨y11, hy12, he⟩ := Option.bind_eq_some_iff.1 he
  refine w_g (g := (decide ((errN y1.2) = 1)) && (decide (y1.1 = 0))) rfl rfl rfl wn_t (fun g10 => call_d (o_call co18 (vs := []) rfl (radomelaw04_sure.calls k (gd_t g10 hy12)))) ?_
  refine w_d rfl (d_and' (b := ((decide ((errN y1.2) = 1)) && (decide (y1.1 = 0)))) (p := y11) rfl rfl rfl) ?_
  refine w_d rfl (d_assign (v := .bool (((decide ((errN y1.2) = 1)) && (decide (y1.1 = 0))) && y11)) rfl) ?_
  refine w_done ?_
  obtain rfl := Option.some.inj he
  refine w_return fn_4 rs_4 (.tmp (v := .bool (((decide ((errN y1.2) = 1)) && (decide (y1.1 = 0))) && y11)) rfl .nil) ?_
  exact ⟨⟨[], rfl⟩, hle, rfl⟩
 ·
  refine w_else rfl (Bool.eq_false_iff.2 c7) ?_
  refine w_skip ?_
  refine w_seq ?_
  refine w_region rfl ?_
  refine w_d rfl (d_move (v := errV 70 y1.2) rfl) ?_
  refine w_d rfl (d_eqnil (e := y1.2) Tryd.underlying24 rfl) ?_
  refine w_d rfl (d_move (v := .bool y1.2.isNone) rfl) ?_
  refine w_g (g := y1.2.isNone) rfl rfl rfl wn_t (fun g15 => d_move (v := .int .i64 y1.1) rfl) ?_
  refine w_g (g := y1.2.isNone) rfl rfl rfl wn_t (fun g16 => d_move (v := .int .u32 t) rfl) ?_
  refine w_g (g := y1.2.isNone) rfl rfl rfl wn_t (fun g17 => d_conv (c := w64 (t)) Tryd.underlying37 Tryd.underlying2 (cvt g17) rfl) ?_
  refine w_g (g := y1.2.isNone) rfl rfl rfl wn_t (fun g18 => d_move (v := .int .i64 bits) rfl) ?_
  obtain ⟨y20, hy21, he⟩ := Option.bind_eq_some_iff.1 he
  refine w_gk (g := y1.2.isNone) rfl rfl rfl wn_t (fun g19 => o_call co20 (vs := [.int .i64 (w64 (t)), .int .i64 bits]) (acons (cvt g19) (acons (cvt g19) (anil))) (radomeref04_Radians.calls k (gd_t g19 hy21))) ?_
  intro v26 H22 e23 hp_ hq_
  obtain ⟨v24, rfl, h25⟩ := gk1 (T := fun v24 => .agg ⟨[.bool y20.f_Neg, v24]⟩) (Q := fun v24 => Ro (Kd.int .i64) H22 v24 y20.f_D) hp_ hq_
  obtain ⟨y28, hy29, he⟩ := Option.bind_eq_some_iff.1 he
  refine w_g (g := y1.2.isNone) rfl rfl rfl wn_t (fun g27 => call_d (o_call co19 (vs := [.agg ⟨[.bool y20.f_Neg, v24]⟩]) (acons (cvt g27) (anil)) (radomeref03_Small.calls k (n := (⟨y20.f_Neg, y20.f_D⟩ : radomeref01_Num)) (gd_t g27 hy29) (h25 g27)))) ?_
  refine w_g (g := y1.2.isNone) rfl rfl rfl wn_t (fun g32 => d_eql (cvt g32) (cvt g32)) ?_
  refine w_d rfl (d_and' (b := y1.2.isNone) (p := (decide (y1.1 = y28))) rfl rfl rfl) ?_
  refine w_d rfl (d_move (v := .bool (y1.2.isNone && (decide (y1.1 = y28)))) rfl) ?_
  refine w_g (g := y1.2.isNone && (decide (y1.1 = y28))) rfl rfl rfl wn_t (fun g33 => d_move (v := .int .i64 y1.1) rfl) ?_
  obtain ⟨y35, hy36, he⟩ := Option.bind_eq_some_iff.1 he
  refine w_gk (g := y1.2.isNone && (decide (y1.1 = y28))) rfl rfl rfl wn_t (fun g34 => o_call co22 (vs := [.int .i64 y1.1]) (acons (cvt g34) (anil)) (radomeref01_Of.calls k (gd_t g34 hy36))) ?_
  intro v41 H37 e38 hp_ hq_
  obtain ⟨v39, rfl, h40⟩ := gk1 (T := fun v39 => .agg ⟨[.bool y35.f_Neg, v39]⟩) (Q := fun v39 => Ro (Kd.int .i64) H37 v39 y35.f_D) hp_ hq_
  obtain ⟨y43, hy44, he⟩ := Option.bind_eq_some_iff.1 he
  refine w_g (g := y1.2.isNone && (decide (y1.1 = y28))) rfl rfl rfl wn_t (fun g42 => call_d (o_call co21 (vs := [.agg ⟨[.bool y35.f_Neg, v39]⟩]) (acons (cvt g42) (anil)) (radomeref01_Sign.calls k (a := (⟨y35.f_Neg, y35.f_D⟩ : radomeref01_Num)) (gd_t g42 hy44) (h40 g42)))) ?_
  refine w_g (g := y1.2.isNone && (decide (y1.1 = y28))) rfl rfl rfl wn_t (fun g47 => d_geq (cvt g47) rfl) ?_
  refine w_d rfl (d_and' (b := (y1.2.isNone && (decide (y1.1 = y28)))) (p := (decide (0 ≤ y43))) rfl rfl rfl) ?_
  refine w_d rfl (d_move (v := .bool ((y1.2.isNone && (decide (y1.1 = y28))) && (decide (0 ≤ y43)))) rfl) ?_
  obtain ⟨y49, hy50, he⟩ := Option.bind_eq_some_iff.1 he
  refine w_g (g := (y1.2.isNone && (decide (y1.1 = y28))) && (decide (0 ≤ y43))) rfl rfl rfl wn_t (fun g48 => call_d (o_call co18 (vs := []) rfl (radomelaw04_sure.calls k (gd_t g48 hy50)))) ?_
  refine w_d rfl (d_and' (b := ((y1.2.isNone && (decide (y1.1 = y28))) && (decide (0 ≤ y43)))) (p := y49) rfl rfl rfl) ?_
  refine w_d rfl (d_assign (v := .bool (((y1.2.isNone && (decide (y1.1 = y28))) && (decide (0 ≤ y43))) && y49)) rfl) ?_
  refine w_done ?_
  obtain rfl := Option.some.inj he
  refine w_return fn_4 rs_4 (.tmp (v := .bool (((y1.2.isNone && (decide (y1.1 = y28))) && (decide (0 ≤ y43))) && y49)) rfl .nil) ?_
  exact ⟨⟨[], rfl⟩, hle.trans (e23.trans e38), rfl⟩
/-! ### radome/life.Check -/
noncomputable def life_Check.C : Code := (Tryd.f27.body).getD .skip
def life_Check.out (r : (Option Int)) (H : Hp) (v : Value) : Prop := v = errV 70 r
abbrev life_Check.R (H0 : Hp) (L : Items) (r : (Option Int)) : Value → Hp → Items → Prop := fun v H' L' => (∃ p, L' = p ++ L) ∧ H0.le H' ∧ life_Check.out r H' v
noncomputable def life_Check.f (k : Nat) (r_ : life_Rule) : Option (Option Int) := if (((((decide (r_.f_Hits < 1)) || (decide (r_.f_Window < r_.f_Hits))) || (decide (16 < r_.f_Window))) || (decide (r_.f_Misses < 1))) || (decide (64 < r_.f_Misses))) = true then (some (some 1)) else (some (none))
theorem life_Check.mono : ∀ k y0, LeO (life_Check.f k y0) (life_Check.f (k + 1) y0) := fun k _ => by unfold life_Check.f; exact (LeO.ite (LeO.refl _) (LeO.refl _))
set_option maxRecDepth 100000 in
set_option maxHeartbeats 2000000 in
theorem life_Check.calls (k : Nat) {H : Hp} {L : Items} {r_ : life_Rule} {r : (Option Int)} (he : life_Check.f k r_ = some r) : Ct Tryd.prog 27 ⟨[.agg ⟨[.int .i64 r_.f_Hits, .int .i64 r_.f_Window, .int .i64 r_.f_Misses]⟩]⟩ H L (fun v H' L' => L = L' ∧ H = H' ∧ v = errV 70 r) := by
 refine ct_outs (O := life_Check.out r) (fun _ _ h => h) ?_
 have hle : H.le H := .refl _
 unfold life_Check.f at he
 refine ct_enter (args := [.agg ⟨[.int .i64 r_.f_Hits, .int .i64 r_.f_Window, .int .i64 r_.f_Misses]⟩]) fn_27 rfl nt_27 rfl ?_
 refine w_seq ?_
 refine w_region rfl ?_
 refine w_a rfl (o_box (v := .agg ⟨[.int .i64 r_.f_Hits, .int .i64 r_.f_Window, .int .i64 r_.f_Misses]⟩) rfl rfl) ?_
 rintro _ _ _ ⟨b1, rfl, rfl, rfl⟩
 refine w_d rfl (d_assign (v := errV 70 none) rfl) ?_
 refine w_done ?_
 refine w_seq ?_
 refine w_seq ?_
 refine w_region rfl ?_
 refine w_d rfl (d_fld (o' := 0) Tryd.underlying55 rfl sz3 rfl rfl rfl) ?_
 refine w_d rfl (d_loado (v := .int .i64 r_.f_Hits) ty3 rfl .here rfl rfl rfl rfl) ?_
 refine w_d rfl (d_lss rfl rfl) ?_
 refine w_d rfl (d_move (v := .bool (decide (r_.f_Hits < 1))) rfl) ?_
 refine w_g (g := !(decide (r_.f_Hits < 1))) rfl rfl rfl wn_f (fun g2 => d_fld (o' := 0) Tryd.underlying55 rfl sz3 rfl rfl rfl) ?_
 refine w_g (g := !(decide (r_.f_Hits < 1))) rfl rfl rfl wn_f (fun g3 => d_loado (v := .int .i64 r_.f_Hits) ty3 (cvt g3) .here rfl rfl rfl rfl) ?_
 refine w_g (g := !(decide (r_.f_Hits < 1))) rfl rfl rfl wn_f (fun g4 => d_fld (o' := 1) Tryd.underlying55 rfl sz3 rfl rfl rfl) ?_
 refine w_g (g := !(decide (r_.f_Hits < 1))) rfl rfl rfl wn_f (fun g5 => d_loado (v := .int .i64 r_.f_Window) ty3 (cvt g5) .here rfl rfl rfl rfl) ?_
 refine w_g (g := !(decide (r_.f_Hits < 1))) rfl rfl rfl wn_f (fun g6 => d_gtr (cvt g6) (cvt g6)) ?_
 refine w_d rfl (d_or' (b := (decide (r_.f_Hits < 1))) (p := (decide (r_.f_Window < r_.f_Hits))) rfl rfl rfl) ?_
 refine w_d rfl (d_move (v := .bool ((decide (r_.f_Hits < 1)) || (decide (r_.f_Window < r_.f_Hits)))) rfl) ?_
 refine w_g (g := !((decide (r_.f_Hits < 1)) || (decide (r_.f_Window < r_.f_Hits)))) rfl rfl rfl wn_f (fun g7 => d_fld (o' := 1) Tryd.underlying55 rfl sz3 rfl rfl rfl) ?_
 refine w_g (g := !((decide (r_.f_Hits < 1)) || (decide (r_.f_Window < r_.f_Hits)))) rfl rfl rfl wn_f (fun g8 => d_loado (v := .int .i64 r_.f_Window) ty3 (cvt g8) .here rfl rfl rfl rfl) ?_
 refine w_g (g := !((decide (r_.f_Hits < 1)) || (decide (r_.f_Window < r_.f_Hits)))) rfl rfl rfl wn_f (fun g9 => d_gtr (cvt g9) rfl) ?_
 refine w_d rfl (d_or' (b := ((decide (r_.f_Hits < 1)) || (decide (r_.f_Window < r_.f_Hits)))) (p := (decide (16 < r_.f_Window))) rfl rfl rfl) ?_
 refine w_d rfl (d_move (v := .bool (((decide (r_.f_Hits < 1)) || (decide (r_.f_Window < r_.f_Hits))) || (decide (16 < r_.f_Window)))) rfl) ?_
 refine w_g (g := !(((decide (r_.f_Hits < 1)) || (decide (r_.f_Window < r_.f_Hits))) || (decide (16 < r_.f_Window)))) rfl rfl rfl wn_f (fun g10 => d_fld (o' := 2) Tryd.underlying55 rfl sz3 rfl rfl rfl) ?_
 refine w_g (g := !(((decide (r_.f_Hits < 1)) || (decide (r_.f_Window < r_.f_Hits))) || (decide (16 < r_.f_Window)))) rfl rfl rfl wn_f (fun g11 => d_loado (v := .int .i64 r_.f_Misses) ty3 (cvt g11) .here rfl rfl rfl rfl) ?_
 refine w_g (g := !(((decide (r_.f_Hits < 1)) || (decide (r_.f_Window < r_.f_Hits))) || (decide (16 < r_.f_Window)))) rfl rfl rfl wn_f (fun g12 => d_lss (cvt g12) rfl) ?_
 refine w_d rfl (d_or' (b := (((decide (r_.f_Hits < 1)) || (decide (r_.f_Window < r_.f_Hits))) || (decide (16 < r_.f_Window)))) (p := (decide (r_.f_Misses < 1))) rfl rfl rfl) ?_
 refine w_d rfl (d_move (v := .bool ((((decide (r_.f_Hits < 1)) || (decide (r_.f_Window < r_.f_Hits))) || (decide (16 < r_.f_Window))) || (decide (r_.f_Misses < 1)))) rfl) ?_
 refine w_g (g := !((((decide (r_.f_Hits < 1)) || (decide (r_.f_Window < r_.f_Hits))) || (decide (16 < r_.f_Window))) || (decide (r_.f_Misses < 1)))) rfl rfl rfl wn_f (fun g13 => d_fld (o' := 2) Tryd.underlying55 rfl sz3 rfl rfl rfl) ?_
 refine w_g (g := !((((decide (r_.f_Hits < 1)) || (decide (r_.f_Window < r_.f_Hits))) || (decide (16 < r_.f_Window))) || (decide (r_.f_Misses < 1)))) rfl rfl rfl wn_f (fun g14 => d_loado (v := .int .i64 r_.f_Misses) ty3 (cvt g14) .here rfl rfl rfl rfl) ?_
 refine w_g (g := !((((decide (r_.f_Hits < 1)) || (decide (r_.f_Window < r_.f_Hits))) || (decide (16 < r_.f_Window))) || (decide (r_.f_Misses < 1)))) rfl rfl rfl wn_f (fun g15 => d_gtr (cvt g15) rfl) ?_
 refine w_d rfl (d_or' (b := ((((decide (r_.f_Hits < 1)) || (decide (r_.f_Window < r_.f_Hits))) || (decide (16 < r_.f_Window))) || (decide (r_.f_Misses < 1)))) (p := (decide (64 < r_.f_Misses))) rfl rfl rfl) ?_
 refine w_done ?_
 rcases its he with ⟨c16, he⟩ | ⟨c16, he⟩
 ·
  refine w_then rfl c16 ?_
  refine w_seq ?_
  refine w_region rfl ?_
  refine w_d rfl (d_iface (v := .int .i64 1) Tryd.underlying70 rfl rfl) ?_
  refine w_d rfl (d_assign (v := errV 70 (some 1)) rfl) ?_
  refine w_done ?_
  obtain rfl := Option.some.inj he
  refine w_return fn_27 rs_27 (.tmp (v := errV 70 (some 1)) rfl .nil) ?_
  exact ⟨⟨[_], rfl⟩, hle, rfl⟩
 ·
  refine w_else rfl (Bool.eq_false_iff.2 c16) ?_
  refine w_skip ?_
  refine w_seq ?_
  refine w_region rfl ?_
  refine w_d rfl (d_assign (v := errV 70 none) rfl) ?_
  refine w_done ?_
  obtain rfl := Option.some.inj he
  refine w_return fn_27 rs_27 (.tmp (v := errV 70 none) rfl .nil) ?_
  exact ⟨⟨[_], rfl⟩, hle, rfl⟩
/-! ### radome/life.Born -/
noncomputable def life_Born.C : Code := (Tryd.f23.body).getD .skip
def life_Born.out (r : life_Life × (Option Int)) (H : Hp) (v : Value) : Prop := v = .tuple ⟨[.agg ⟨[.int .i64 r.1.f_Kind, .int .u32 r.1.f_Seen, .int .i64 r.1.f_Age, .int .i64 r.1.f_Missed]⟩, errV 70 r.2]⟩
abbrev life_Born.R (H0 : Hp) (L : Items) (r : life_Life × (Option Int)) : Value → Hp → Items → Prop := fun v H' L' => (∃ p, L' = p ++ L) ∧ H0.le H' ∧ life_Born.out r H' v
noncomputable def life_Born.f (k : Nat) (r_ : life_Rule) : Option (life_Life × (Option Int)) := (life_Check.f k (⟨r_.f_Hits, r_.f_Window, r_.f_Misses⟩ : life_Rule)).bind fun y3 => if y3.isSome = true then (some ((⟨0, 0, 0, 0⟩ : life_Life), y3)) else (if r_.f_Hits = 1 then (some ((⟨1, 1, 1, 0⟩ : life_Life), none)) else (if r_.f_Window = 1 then (some ((⟨3, 1, 1, 0⟩ : life_Life), none)) else (some ((⟨0, 1, 1, 0⟩ : life_Life), none))))
theorem life_Born.mono : ∀ k y0, LeO (life_Born.f k y0) (life_Born.f (k + 1) y0) := fun k _ => by unfold life_Born.f; exact (LeO.bind (life_Check.mono k _) fun _ => LeO.ite (LeO.refl _) (LeO.ite (LeO.refl _) (LeO.ite (LeO.refl _) (LeO.refl _))))
set_option maxRecDepth 100000 in
set_option maxHeartbeats 2000000 in
theorem life_Born.calls (k : Nat) {H : Hp} {L : Items} {r_ : life_Rule} {r : life_Life × (Option Int)} (he : life_Born.f k r_ = some r) : Ct Tryd.prog 23 ⟨[.agg ⟨[.int .i64 r_.f_Hits, .int .i64 r_.f_Window, .int .i64 r_.f_Misses]⟩]⟩ H L (fun v H' L' => L = L' ∧ H = H' ∧ v = .tuple ⟨[.agg ⟨[.int .i64 r.1.f_Kind, .int .u32 r.1.f_Seen, .int .i64 r.1.f_Age, .int .i64 r.1.f_Missed]⟩, errV 70 r.2]⟩) := by
 refine ct_outs (O := life_Born.out r) (fun _ _ h => h) ?_
 have hle : H.le H := .refl _
 unfold life_Born.f at he
 refine ct_enter (args := [.agg ⟨[.int .i64 r_.f_Hits, .int .i64 r_.f_Window, .int .i64 r_.f_Misses]⟩]) fn_23 rfl nt_23 rfl ?_
 refine w_seq ?_
 refine w_region rfl ?_
 refine w_a rfl (o_box (v := .agg ⟨[.int .i64 r_.f_Hits, .int .i64 r_.f_Window, .int .i64 r_.f_Misses]⟩) rfl rfl) ?_
 rintro _ _ _ ⟨b1, rfl, rfl, rfl⟩
 refine w_a rfl (o_alloc zr52 rfl) ?_
 rintro _ _ _ ⟨b2, rfl, rfl, rfl⟩
 refine w_d rfl (d_assign (v := errV 70 none) rfl) ?_
 refine w_done ?_
 refine w_seq ?_
 refine w_seq ?_
 refine w_region rfl ?_
 refine w_d rfl (d_loado (v := .agg ⟨[.int .i64 r_.f_Hits, .int .i64 r_.f_Window, .int .i64 r_.f_Misses]⟩) ty55 rfl (.there .here) rfl rfl rfl rfl) ?_
 obtain ⟨y3, hy4, he⟩ := Option.bind_eq_some_iff.1 he
 refine w_d rfl (call_d (o_call co27 (vs := [.agg ⟨[.int .i64 r_.f_Hits, .int .i64 r_.f_Window, .int .i64 r_.f_Misses]⟩]) rfl (life_Check.calls k (r_ := (⟨r_.f_Hits, r_.f_Window, r_.f_Misses⟩ : life_Rule)) hy4))) ?_
 refine w_d rfl (d_assign (v := errV 70 y3) rfl) ?_
 refine w_done ?_
 refine w_seq ?_
 refine w_region rfl ?_
 refine w_d rfl (d_move (v := errV 70 y3) rfl) ?_
 refine w_d rfl (d_nenil (e := y3) Tryd.underlying24 rfl) ?_
 refine w_done ?_
 rcases its he with ⟨c7, he⟩ | ⟨c7, he⟩
 ·
  refine w_then rfl c7 ?_
  refine w_seq ?_
  refine w_region rfl ?_
  refine w_d rfl (d_build (cs' := [.int .i64 0, .int .u32 0, .int .i64 0, .int .i64 0]) Tryd.underlying52 zr52 rfl (by kernel_rfl) (parts := []) rfl .nil) ?_
  refine w_d rfl (d_move (v := errV 70 y3) rfl) ?_
  refine w_a0 rfl (o_store (v := .agg ⟨[.int .i64 0, .int .u32 0, .int .i64 0, .int .i64 0]⟩) sz52 rfl rfl rfl rfl (one_cons rfl (one_cons rfl (one_cons rfl (one_cons rfl one_nil)))) .here (.here (.here (.here (.here .done))))) ?_
  rintro _ _ _ ⟨rfl, rfl, rfl⟩
  refine w_d rfl (d_assign (v := errV 70 y3) rfl) ?_
  refine w_done ?_
  obtain rfl := Option.some.inj he
  refine w_return fn_23 rs_23 (.box (v := .agg ⟨[.int .i64 0, .int .u32 0, .int .i64 0, .int .i64 0]⟩) rfl ty52 rfl rfl .here rfl (.tmp (v := errV 70 y3) rfl .nil)) ?_
  exact ⟨⟨[_, _], rfl⟩, hle, rfl⟩
 ·
  refine w_else rfl (Bool.eq_false_iff.2 c7) ?_
  refine w_skip ?_
  refine w_seq ?_
  refine w_region rfl ?_
  refine w_d rfl (d_build (cs' := [.int .i64 0, .int .u32 1, .int .i64 1, .int .i64 0]) Tryd.underlying52 zr52 rfl (by kernel_rfl) (parts := [(0, .int .i64 0), (1, .int .u32 1), (2, .int .i64 1)]) rfl (.cons (place_of rfl sz3 rfl) rfl rfl (.here .done) (.cons (place_of rfl sz37 rfl) rfl rfl (.there (.here .done)) (.cons (place_of rfl sz3 rfl) rfl rfl (.there (.there (.here .done))) .nil)))) ?_
  refine w_a rfl (o_alloc zr52 rfl) ?_
  rintro _ _ _ ⟨b8, rfl, rfl, rfl⟩
  refine w_a0 rfl (o_store (v := .agg ⟨[.int .i64 0, .int .u32 1, .int .i64 1, .int .i64 0]⟩) sz52 rfl rfl rfl rfl (one_cons rfl (one_cons rfl (one_cons rfl (one_cons rfl one_nil)))) .here (.here (.here (.here (.here .done))))) ?_
  rintro _ _ _ ⟨rfl, rfl, rfl⟩
  refine w_done ?_
  refine w_seq ?_
  refine w_block ?_
  refine w_seq ?_
  refine w_region rfl ?_
  refine w_d rfl (d_fld (o' := 0) Tryd.underlying55 rfl sz3 rfl rfl rfl) ?_
  refine w_d rfl (d_loado (v := .int .i64 r_.f_Hits) ty3 rfl (.there (.there .here)) rfl rfl rfl rfl) ?_
  refine w_d rfl (d_eql rfl rfl) ?_
  refine w_d rfl (d_assign (v := .bool (decide (r_.f_Hits = 1))) rfl) ?_
  refine w_done ?_
  rcases its he with ⟨c9, he⟩ | ⟨c9, he⟩
  ·
   refine w_then rfl (decide_eq_true c9) ?_
   refine w_region rfl ?_
   refine w_d rfl (d_fld (o' := 0) Tryd.underlying52 rfl sz3 rfl rfl rfl) ?_
   refine w_a0 rfl (o_store (v := .int .i64 1) sz3 rfl rfl rfl rfl (one_cons rfl one_nil) .here (.here .done)) ?_
   rintro _ _ _ ⟨rfl, rfl, rfl⟩
   refine w_done ?_
   refine w_inBlock ?_
   refine w_seq ?_
   refine w_region rfl ?_
   refine w_d rfl (d_loado (v := .agg ⟨[.int .i64 1, .int .u32 1, .int .i64 1, .int .i64 0]⟩) ty52 rfl .here rfl rfl rfl rfl) ?_
   refine w_a0 rfl (o_store (v := .agg ⟨[.int .i64 1, .int .u32 1, .int .i64 1, .int .i64 0]⟩) sz52 rfl rfl rfl rfl (one_cons rfl (one_cons rfl (one_cons rfl (one_cons rfl one_nil)))) (.there .here) (.here (.here (.here (.here .done))))) ?_
   rintro _ _ _ ⟨rfl, rfl, rfl⟩
   refine w_d rfl (d_assign (v := errV 70 none) rfl) ?_
   refine w_done ?_
   obtain rfl := Option.some.inj he
   refine w_return fn_23 rs_23 (.box (v := .agg ⟨[.int .i64 1, .int .u32 1, .int .i64 1, .int .i64 0]⟩) rfl ty52 rfl rfl (.there .here) rfl (.tmp (v := errV 70 none) rfl .nil)) ?_
   exact ⟨⟨[_, _, _], rfl⟩, hle, rfl⟩
  ·
   refine w_else rfl (decide_eq_false c9) ?_
   refine w_seq ?_
   refine w_region rfl ?_
   refine w_d rfl (d_fld (o' := 1) Tryd.underlying55 rfl sz3 rfl rfl rfl) ?_
   refine w_d rfl (d_loado (v := .int .i64 r_.f_Window) ty3 rfl (.there (.there .here)) rfl rfl rfl rfl) ?_
   refine w_d rfl (d_eql rfl rfl) ?_
   refine w_d rfl (d_assign (v := .bool (decide (r_.f_Window = 1))) rfl) ?_
   refine w_done ?_
   rcases its he with ⟨c10, he⟩ | ⟨c10, he⟩
   ·
    refine w_then rfl (decide_eq_true c10) ?_
    refine w_region rfl ?_
    refine w_d rfl (d_fld (o' := 0) Tryd.underlying52 rfl sz3 rfl rfl rfl) ?_
    refine w_a0 rfl (o_store (v := .int .i64 3) sz3 rfl rfl rfl rfl (one_cons rfl one_nil) .here (.here .done)) ?_
    rintro _ _ _ ⟨rfl, rfl, rfl⟩
    refine w_done ?_
    refine w_inBlock ?_
    refine w_seq ?_
    refine w_region rfl ?_
    refine w_d rfl (d_loado (v := .agg ⟨[.int .i64 3, .int .u32 1, .int .i64 1, .int .i64 0]⟩) ty52 rfl .here rfl rfl rfl rfl) ?_
    refine w_a0 rfl (o_store (v := .agg ⟨[.int .i64 3, .int .u32 1, .int .i64 1, .int .i64 0]⟩) sz52 rfl rfl rfl rfl (one_cons rfl (one_cons rfl (one_cons rfl (one_cons rfl one_nil)))) (.there .here) (.here (.here (.here (.here .done))))) ?_
    rintro _ _ _ ⟨rfl, rfl, rfl⟩
    refine w_d rfl (d_assign (v := errV 70 none) rfl) ?_
    refine w_done ?_
    obtain rfl := Option.some.inj he
    refine w_return fn_23 rs_23 (.box (v := .agg ⟨[.int .i64 3, .int .u32 1, .int .i64 1, .int .i64 0]⟩) rfl ty52 rfl rfl (.there .here) rfl (.tmp (v := errV 70 none) rfl .nil)) ?_
    exact ⟨⟨[_, _, _], rfl⟩, hle, rfl⟩
   ·
    refine w_else rfl (decide_eq_false c10) ?_
    refine w_skip ?_
    refine w_inBlock ?_
    refine w_seq ?_
    refine w_region rfl ?_
    refine w_d rfl (d_loado (v := .agg ⟨[.int .i64 0, .int .u32 1, .int .i64 1, .int .i64 0]⟩) ty52 rfl .here rfl rfl rfl rfl) ?_
    refine w_a0 rfl (o_store (v := .agg ⟨[.int .i64 0, .int .u32 1, .int .i64 1, .int .i64 0]⟩) sz52 rfl rfl rfl rfl (one_cons rfl (one_cons rfl (one_cons rfl (one_cons rfl one_nil)))) (.there .here) (.here (.here (.here (.here .done))))) ?_
    rintro _ _ _ ⟨rfl, rfl, rfl⟩
    refine w_d rfl (d_assign (v := errV 70 none) rfl) ?_
    refine w_done ?_
    obtain rfl := Option.some.inj he
    refine w_return fn_23 rs_23 (.box (v := .agg ⟨[.int .i64 0, .int .u32 1, .int .i64 1, .int .i64 0]⟩) rfl ty52 rfl rfl (.there .here) rfl (.tmp (v := errV 70 none) rfl .nil)) ?_
    exact ⟨⟨[_, _, _], rfl⟩, hle, rfl⟩
/-! ### radome/radomeref23.Check -/
noncomputable def radomeref23_Check.C : Code := (Tryd.f24.body).getD .skip
def radomeref23_Check.out (r : Bool) (H : Hp) (v : Value) : Prop := v = .bool r
abbrev radomeref23_Check.R (H0 : Hp) (L : Items) (r : Bool) : Value → Hp → Items → Prop := fun v H' L' => (∃ p, L' = p ++ L) ∧ H0.le H' ∧ radomeref23_Check.out r H' v
noncomputable def radomeref23_Check.f (k : Nat) (r_ : radomeref23_Rule) : Option Bool := some ((((((decide (1 ≤ r_.f_Window)) && (decide (r_.f_Window ≤ 16))) && (decide (1 ≤ r_.f_Hits))) && (decide (r_.f_Hits ≤ r_.f_Window))) && (decide (1 ≤ r_.f_Misses))) && (decide (r_.f_Misses ≤ 64)))
theorem radomeref23_Check.mono : ∀ k y0, LeO (radomeref23_Check.f k y0) (radomeref23_Check.f (k + 1) y0) := fun k _ => by unfold radomeref23_Check.f; exact (LeO.refl _)
set_option maxRecDepth 100000 in
set_option maxHeartbeats 2000000 in
theorem radomeref23_Check.calls (k : Nat) {H : Hp} {L : Items} {r_ : radomeref23_Rule} {r : Bool} (he : radomeref23_Check.f k r_ = some r) : Ct Tryd.prog 24 ⟨[.agg ⟨[.int .i64 r_.f_Hits, .int .i64 r_.f_Window, .int .i64 r_.f_Misses]⟩]⟩ H L (fun v H' L' => L = L' ∧ H = H' ∧ v = .bool r) := by
 refine ct_outs (O := radomeref23_Check.out r) (fun _ _ h => h) ?_
 have hle : H.le H := .refl _
 unfold radomeref23_Check.f at he
 refine ct_enter (args := [.agg ⟨[.int .i64 r_.f_Hits, .int .i64 r_.f_Window, .int .i64 r_.f_Misses]⟩]) fn_24 rfl nt_24 rfl ?_
 refine w_seq ?_
 refine w_region rfl ?_
 refine w_a rfl (o_box (v := .agg ⟨[.int .i64 r_.f_Hits, .int .i64 r_.f_Window, .int .i64 r_.f_Misses]⟩) rfl rfl) ?_
 rintro _ _ _ ⟨b1, rfl, rfl, rfl⟩
 refine w_d rfl (d_assign (v := .bool false) rfl) ?_
 refine w_done ?_
 refine w_seq ?_
 refine w_region rfl ?_
 refine w_d rfl (d_fld (o' := 1) Tryd.underlying49 rfl sz3 rfl rfl rfl) ?_
 refine w_d rfl (d_loado (v := .int .i64 r_.f_Window) ty3 rfl .here rfl rfl rfl rfl) ?_
 refine w_d rfl (d_geq rfl rfl) ?_
 refine w_d rfl (d_move (v := .bool (decide (1 ≤ r_.f_Window))) rfl) ?_
 refine w_g (g := decide (1 ≤ r_.f_Window)) rfl rfl rfl wn_t (fun g2 => d_fld (o' := 1) Tryd.underlying49 rfl sz3 rfl rfl rfl) ?_
 refine w_g (g := decide (1 ≤ r_.f_Window)) rfl rfl rfl wn_t (fun g3 => d_loado (v := .int .i64 r_.f_Window) ty3 (cvt g3) .here rfl rfl rfl rfl) ?_
 refine w_g (g := decide (1 ≤ r_.f_Window)) rfl rfl rfl wn_t (fun g4 => d_leq (cvt g4) rfl) ?_
 refine w_d rfl (d_and' (b := (decide (1 ≤ r_.f_Window))) (p := (decide (r_.f_Window ≤ 16))) rfl rfl rfl) ?_
 refine w_d rfl (d_move (v := .bool ((decide (1 ≤ r_.f_Window)) && (decide (r_.f_Window ≤ 16)))) rfl) ?_
 refine w_g (g := (decide (1 ≤ r_.f_Window)) && (decide (r_.f_Window ≤ 16))) rfl rfl rfl wn_t (fun g5 => d_fld (o' := 0) Tryd.underlying49 rfl sz3 rfl rfl rfl) ?_
 refine w_g (g := (decide (1 ≤ r_.f_Window)) && (decide (r_.f_Window ≤ 16))) rfl rfl rfl wn_t (fun g6 => d_loado (v := .int .i64 r_.f_Hits) ty3 (cvt g6) .here rfl rfl rfl rfl) ?_
 refine w_g (g := (decide (1 ≤ r_.f_Window)) && (decide (r_.f_Window ≤ 16))) rfl rfl rfl wn_t (fun g7 => d_geq (cvt g7) rfl) ?_
 refine w_d rfl (d_and' (b := ((decide (1 ≤ r_.f_Window)) && (decide (r_.f_Window ≤ 16)))) (p := (decide (1 ≤ r_.f_Hits))) rfl rfl rfl) ?_
 refine w_d rfl (d_move (v := .bool (((decide (1 ≤ r_.f_Window)) && (decide (r_.f_Window ≤ 16))) && (decide (1 ≤ r_.f_Hits)))) rfl) ?_
 refine w_g (g := ((decide (1 ≤ r_.f_Window)) && (decide (r_.f_Window ≤ 16))) && (decide (1 ≤ r_.f_Hits))) rfl rfl rfl wn_t (fun g8 => d_fld (o' := 0) Tryd.underlying49 rfl sz3 rfl rfl rfl) ?_
 refine w_g (g := ((decide (1 ≤ r_.f_Window)) && (decide (r_.f_Window ≤ 16))) && (decide (1 ≤ r_.f_Hits))) rfl rfl rfl wn_t (fun g9 => d_loado (v := .int .i64 r_.f_Hits) ty3 (cvt g9) .here rfl rfl rfl rfl) ?_
 refine w_g (g := ((decide (1 ≤ r_.f_Window)) && (decide (r_.f_Window ≤ 16))) && (decide (1 ≤ r_.f_Hits))) rfl rfl rfl wn_t (fun g10 => d_fld (o' := 1) Tryd.underlying49 rfl sz3 rfl rfl rfl) ?_
 refine w_g (g := ((decide (1 ≤ r_.f_Window)) && (decide (r_.f_Window ≤ 16))) && (decide (1 ≤ r_.f_Hits))) rfl rfl rfl wn_t (fun g11 => d_loado (v := .int .i64 r_.f_Window) ty3 (cvt g11) .here rfl rfl rfl rfl) ?_
 refine w_g (g := ((decide (1 ≤ r_.f_Window)) && (decide (r_.f_Window ≤ 16))) && (decide (1 ≤ r_.f_Hits))) rfl rfl rfl wn_t (fun g12 => d_leq (cvt g12) (cvt g12)) ?_
 refine w_d rfl (d_and' (b := (((decide (1 ≤ r_.f_Window)) && (decide (r_.f_Window ≤ 16))) && (decide (1 ≤ r_.f_Hits)))) (p := (decide (r_.f_Hits ≤ r_.f_Window))) rfl rfl rfl) ?_
 refine w_d rfl (d_move (v := .bool ((((decide (1 ≤ r_.f_Window)) && (decide (r_.f_Window ≤ 16))) && (decide (1 ≤ r_.f_Hits))) && (decide (r_.f_Hits ≤ r_.f_Window)))) rfl) ?_
 refine w_g (g := (((decide (1 ≤ r_.f_Window)) && (decide (r_.f_Window ≤ 16))) && (decide (1 ≤ r_.f_Hits))) && (decide (r_.f_Hits ≤ r_.f_Window))) rfl rfl rfl wn_t (fun g13 => d_fld (o' := 2) Tryd.underlying49 rfl sz3 rfl rfl rfl) ?_
 refine w_g (g := (((decide (1 ≤ r_.f_Window)) && (decide (r_.f_Window ≤ 16))) && (decide (1 ≤ r_.f_Hits))) && (decide (r_.f_Hits ≤ r_.f_Window))) rfl rfl rfl wn_t (fun g14 => d_loado (v := .int .i64 r_.f_Misses) ty3 (cvt g14) .here rfl rfl rfl rfl) ?_
 refine w_g (g := (((decide (1 ≤ r_.f_Window)) && (decide (r_.f_Window ≤ 16))) && (decide (1 ≤ r_.f_Hits))) && (decide (r_.f_Hits ≤ r_.f_Window))) rfl rfl rfl wn_t (fun g15 => d_geq (cvt g15) rfl) ?_
 refine w_d rfl (d_and' (b := ((((decide (1 ≤ r_.f_Window)) && (decide (r_.f_Window ≤ 16))) && (decide (1 ≤ r_.f_Hits))) && (decide (r_.f_Hits ≤ r_.f_Window)))) (p := (decide (1 ≤ r_.f_Misses))) rfl rfl rfl) ?_
 refine w_d rfl (d_move (v := .bool (((((decide (1 ≤ r_.f_Window)) && (decide (r_.f_Window ≤ 16))) && (decide (1 ≤ r_.f_Hits))) && (decide (r_.f_Hits ≤ r_.f_Window))) && (decide (1 ≤ r_.f_Misses)))) rfl) ?_
 refine w_g (g := ((((decide (1 ≤ r_.f_Window)) && (decide (r_.f_Window ≤ 16))) && (decide (1 ≤ r_.f_Hits))) && (decide (r_.f_Hits ≤ r_.f_Window))) && (decide (1 ≤ r_.f_Misses))) rfl rfl rfl wn_t (fun g16 => d_fld (o' := 2) Tryd.underlying49 rfl sz3 rfl rfl rfl) ?_
 refine w_g (g := ((((decide (1 ≤ r_.f_Window)) && (decide (r_.f_Window ≤ 16))) && (decide (1 ≤ r_.f_Hits))) && (decide (r_.f_Hits ≤ r_.f_Window))) && (decide (1 ≤ r_.f_Misses))) rfl rfl rfl wn_t (fun g17 => d_loado (v := .int .i64 r_.f_Misses) ty3 (cvt g17) .here rfl rfl rfl rfl) ?_
 refine w_g (g := ((((decide (1 ≤ r_.f_Window)) && (decide (r_.f_Window ≤ 16))) && (decide (1 ≤ r_.f_Hits))) && (decide (r_.f_Hits ≤ r_.f_Window))) && (decide (1 ≤ r_.f_Misses))) rfl rfl rfl wn_t (fun g18 => d_leq (cvt g18) rfl) ?_
 refine w_d rfl (d_and' (b := (((((decide (1 ≤ r_.f_Window)) && (decide (r_.f_Window ≤ 16))) && (decide (1 ≤ r_.f_Hits))) && (decide (r_.f_Hits ≤ r_.f_Window))) && (decide (1 ≤ r_.f_Misses)))) (p := (decide (r_.f_Misses ≤ 64))) rfl rfl rfl) ?_
 refine w_d rfl (d_assign (v := .bool ((((((decide (1 ≤ r_.f_Window)) && (decide (r_.f_Window ≤ 16))) && (decide (1 ≤ r_.f_Hits))) && (decide (r_.f_Hits ≤ r_.f_Window))) && (decide (1 ≤ r_.f_Misses))) && (decide (r_.f_Misses ≤ 64)))) rfl) ?_
 refine w_done ?_
 obtain rfl := Option.some.inj he
 refine w_return fn_24 rs_24 (.tmp (v := .bool ((((((decide (1 ≤ r_.f_Window)) && (decide (r_.f_Window ≤ 16))) && (decide (1 ≤ r_.f_Hits))) && (decide (r_.f_Hits ≤ r_.f_Window))) && (decide (1 ≤ r_.f_Misses))) && (decide (r_.f_Misses ≤ 64)))) rfl .nil) ?_
 exact ⟨⟨[_], rfl⟩, hle, rfl⟩
/-! ### (radome/life.Life).missed -/
noncomputable def life_Life_missed.C : Code := (Tryd.f49.body).getD .skip
def life_Life_missed.out (r : Bool) (H : Hp) (v : Value) : Prop := v = .bool r
abbrev life_Life_missed.R (H0 : Hp) (L : Items) (r : Bool) : Value → Hp → Items → Prop := fun v H' L' => (∃ p, L' = p ++ L) ∧ H0.le H' ∧ life_Life_missed.out r H' v
noncomputable def life_Life_missed.j1 (k : Nat)  (l_0 : Int) (l_1 : Int) (l_2 : Int) (l_3 : Int) (r_0 : Int) (r_1 : Int) (r_2 : Int) (t6 : Int) (t7 : Bool) : Option Bool := if t7 = true then (some ((decide (0 ≤ l_3)) && (decide (l_3 ≤ r_2)))) else (if t6 = 1 then (some (decide (l_3 = 0))) else (if t6 = 2 then (some ((decide (1 ≤ l_3)) && (decide (l_3 < r_2)))) else (if t6 = 4 then (some (decide (l_3 = r_2))) else (some (false)))))
noncomputable def life_Life_missed.f (k : Nat) (l : life_Life) (r_ : life_Rule) : Option Bool := if l.f_Kind = 0 then (life_Life_missed.j1 k l.f_Kind l.f_Seen l.f_Age l.f_Missed r_.f_Hits r_.f_Window r_.f_Misses l.f_Kind (decide (l.f_Kind = 0))) else (life_Life_missed.j1 k l.f_Kind l.f_Seen l.f_Age l.f_Missed r_.f_Hits r_.f_Window r_.f_Misses l.f_Kind (decide (l.f_Kind = 3)))
theorem life_Life_missed.j1_mono {k : Nat} : ∀ y0 y1 y2 y3 y4 y5 y6 y7 y8, LeO (life_Life_missed.j1 k y0 y1 y2 y3 y4 y5 y6 y7 y8) (life_Life_missed.j1 (k + 1) y0 y1 y2 y3 y4 y5 y6 y7 y8) := fun _ _ _ _ _ _ _ _ _ => (LeO.ite (LeO.refl _) (LeO.ite (LeO.refl _) (LeO.ite (LeO.refl _) (LeO.ite (LeO.refl _) (LeO.refl _)))))
theorem life_Life_missed.mono : ∀ k y0 y1, LeO (life_Life_missed.f k y0 y1) (life_Life_missed.f (k + 1) y0 y1) := fun k _ _ => by unfold life_Life_missed.f; exact (LeO.ite (life_Life_missed.j1_mono (k := k)  _ _ _ _ _ _ _ _ _) (life_Life_missed.j1_mono (k := k)  _ _ _ _ _ _ _ _ _))
noncomputable def life_Life_missed.Kj1 : List Item := .code (seqR (blkB (seqR (seqL (seqR life_Life_missed.C))))) :: .inBlock 0 :: .code (seqR (seqR life_Life_missed.C)) :: []
set_option maxRecDepth 100000 in
set_option maxHeartbeats 2000000 in
theorem life_Life_missed.j1_ok {k : Nat} {H0 H : Hp} {L : Items} {r : Bool} {jk_ : Nat → Value} {l_0 : Int} {l_1 : Int} {l_2 : Int} {l_3 : Int} {r_0 : Int} {r_1 : Int} {r_2 : Int} {t6 : Int} {t7 : Bool} {b_l : Nat} {b_r_ : Nat} (hle : H0.le H) (he : life_Life_missed.j1 k l_0 l_1 l_2 l_3 r_0 r_1 r_2 t6 t7 = some r) : Wp Tryd.prog 49 44 life_Life_missed.Kj1 (upd (upd (upd (upd (upd jk_ 2 (.pointer (some ⟨b_l, 0, none⟩))) 3 (.pointer (some ⟨b_r_, 0, none⟩))) 4 (.bool false)) 6 (.int .i64 t6)) 7 (.bool t7)) H (some (b_r_, .cells ⟨[.int .i64 r_0, .int .i64 r_1, .int .i64 r_2]⟩ 55 (0, 0)) :: some (b_l, .cells ⟨[.int .i64 l_0, .int .u32 l_1, .int .i64 l_2, .int .i64 l_3]⟩ 52 (0, 0)) :: L) (life_Life_missed.R H0 L r) := by
 unfold life_Life_missed.j1 at he
 unfold life_Life_missed.Kj1
 rcases its he with ⟨c4, he⟩ | ⟨c4, he⟩
 ·
  refine w_then rfl c4 ?_
  refine w_seq ?_
  refine w_region rfl ?_
  refine w_d rfl (d_fld (o' := 3) Tryd.underlying52 rfl sz3 rfl rfl rfl) ?_
  refine w_d rfl (d_loado (v := .int .i64 l_3) ty3 rfl (.there .here) rfl rfl rfl rfl) ?_
  refine w_d rfl (d_geq rfl rfl) ?_
  refine w_d rfl (d_move (v := .bool (decide (0 ≤ l_3))) rfl) ?_
  refine w_g (g := decide (0 ≤ l_3)) rfl rfl rfl wn_t (fun g5 => d_fld (o' := 3) Tryd.underlying52 rfl sz3 rfl rfl rfl) ?_
  refine w_g (g := decide (0 ≤ l_3)) rfl rfl rfl wn_t (fun g6 => d_loado (v := .int .i64 l_3) ty3 (cvt g6) (.there .here) rfl rfl rfl rfl) ?_
  refine w_g (g := decide (0 ≤ l_3)) rfl rfl rfl wn_t (fun g7 => d_fld (o' := 2) Tryd.underlying55 rfl sz3 rfl rfl rfl) ?_
  refine w_g (g := decide (0 ≤ l_3)) rfl rfl rfl wn_t (fun g8 => d_loado (v := .int .i64 r_2) ty3 (cvt g8) .here rfl rfl rfl rfl) ?_
  refine w_g (g := decide (0 ≤ l_3)) rfl rfl rfl wn_t (fun g9 => d_leq (cvt g9) (cvt g9)) ?_
  refine w_d rfl (d_and' (b := (decide (0 ≤ l_3))) (p := (decide (l_3 ≤ r_2))) rfl rfl rfl) ?_
  refine w_d rfl (d_assign (v := .bool ((decide (0 ≤ l_3)) && (decide (l_3 ≤ r_2)))) rfl) ?_
  refine w_done ?_
  obtain rfl := Option.some.inj he
  refine w_return fn_49 rs_49 (.tmp (v := .bool ((decide (0 ≤ l_3)) && (decide (l_3 ≤ r_2)))) rfl .nil) ?_
  exact ⟨⟨[_, _], rfl⟩, hle, rfl⟩
 ·
  refine w_else rfl (Bool.eq_false_iff.2 c4) ?_
  refine w_seq ?_
  refine w_region rfl ?_
  refine w_d rfl (d_eql rfl rfl) ?_
  refine w_d rfl (d_assign (v := .bool (decide (t6 = 1))) rfl) ?_
  refine w_done ?_
  rcases its he with ⟨c10, he⟩ | ⟨c10, he⟩
  ·
   refine w_then rfl (decide_eq_true c10) ?_
   refine w_seq ?_
   refine w_region rfl ?_
   refine w_d rfl (d_fld (o' := 3) Tryd.underlying52 rfl sz3 rfl rfl rfl) ?_
   refine w_d rfl (d_loado (v := .int .i64 l_3) ty3 rfl (.there .here) rfl rfl rfl rfl) ?_
   refine w_d rfl (d_eql rfl rfl) ?_
   refine w_d rfl (d_assign (v := .bool (decide (l_3 = 0))) rfl) ?_
   refine w_done ?_
   obtain rfl := Option.some.inj he
   refine w_return fn_49 rs_49 (.tmp (v := .bool (decide (l_3 = 0))) rfl .nil) ?_
   exact ⟨⟨[_, _], rfl⟩, hle, rfl⟩
  ·
   refine w_else rfl (decide_eq_false c10) ?_
   refine w_seq ?_
   refine w_region rfl ?_
   refine w_d rfl (d_eql rfl rfl) ?_
   refine w_d rfl (d_assign (v := .bool (decide (t6 = 2))) rfl) ?_
   refine w_done ?_
   rcases its he with ⟨c11, he⟩ | ⟨c11, he⟩
   ·
    refine w_then rfl (decide_eq_true c11) ?_
    refine w_seq ?_
    refine w_region rfl ?_
    refine w_d rfl (d_fld (o' := 3) Tryd.underlying52 rfl sz3 rfl rfl rfl) ?_
    refine w_d rfl (d_loado (v := .int .i64 l_3) ty3 rfl (.there .here) rfl rfl rfl rfl) ?_
    refine w_d rfl (d_geq rfl rfl) ?_
    refine w_d rfl (d_move (v := .bool (decide (1 ≤ l_3))) rfl) ?_
    refine w_g (g := decide (1 ≤ l_3)) rfl rfl rfl wn_t (fun g12 => d_fld (o' := 3) Tryd.underlying52 rfl sz3 rfl rfl rfl) ?_
    refine w_g (g := decide (1 ≤ l_3)) rfl rfl rfl wn_t (fun g13 => d_loado (v := .int .i64 l_3) ty3 (cvt g13) (.there .here) rfl rfl rfl rfl) ?_
    refine w_g (g := decide (1 ≤ l_3)) rfl rfl rfl wn_t (fun g14 => d_fld (o' := 2) Tryd.underlying55 rfl sz3 rfl rfl rfl) ?_
    refine w_g (g := decide (1 ≤ l_3)) rfl rfl rfl wn_t (fun g15 => d_loado (v := .int .i64 r_2) ty3 (cvt g15) .here rfl rfl rfl rfl) ?_
    refine w_g (g := decide (1 ≤ l_3)) rfl rfl rfl wn_t (fun g16 => d_lss (cvt g16) (cvt g16)) ?_
    refine w_d rfl (d_and' (b := (decide (1 ≤ l_3))) (p := (decide (l_3 < r_2))) rfl rfl rfl) ?_
    refine w_d rfl (d_assign (v := .bool ((decide (1 ≤ l_3)) && (decide (l_3 < r_2)))) rfl) ?_
    refine w_done ?_
    obtain rfl := Option.some.inj he
    refine w_return fn_49 rs_49 (.tmp (v := .bool ((decide (1 ≤ l_3)) && (decide (l_3 < r_2)))) rfl .nil) ?_
    exact ⟨⟨[_, _], rfl⟩, hle, rfl⟩
   ·
    refine w_else rfl (decide_eq_false c11) ?_
    refine w_seq ?_
    refine w_region rfl ?_
    refine w_d rfl (d_eql rfl rfl) ?_
    refine w_d rfl (d_assign (v := .bool (decide (t6 = 4))) rfl) ?_
    refine w_done ?_
    rcases its he with ⟨c17, he⟩ | ⟨c17, he⟩
    ·
     refine w_then rfl (decide_eq_true c17) ?_
     refine w_seq ?_
     refine w_region rfl ?_
     refine w_d rfl (d_fld (o' := 3) Tryd.underlying52 rfl sz3 rfl rfl rfl) ?_
     refine w_d rfl (d_loado (v := .int .i64 l_3) ty3 rfl (.there .here) rfl rfl rfl rfl) ?_
     refine w_d rfl (d_fld (o' := 2) Tryd.underlying55 rfl sz3 rfl rfl rfl) ?_
     refine w_d rfl (d_loado (v := .int .i64 r_2) ty3 rfl .here rfl rfl rfl rfl) ?_
     refine w_d rfl (d_eql rfl rfl) ?_
     refine w_d rfl (d_assign (v := .bool (decide (l_3 = r_2))) rfl) ?_
     refine w_done ?_
     obtain rfl := Option.some.inj he
     refine w_return fn_49 rs_49 (.tmp (v := .bool (decide (l_3 = r_2))) rfl .nil) ?_
     exact ⟨⟨[_, _], rfl⟩, hle, rfl⟩
    ·
     refine w_else rfl (decide_eq_false c17) ?_
     refine w_skip ?_
     refine w_inBlock ?_
     refine w_seq ?_
     refine w_region rfl ?_
     refine w_d rfl (d_assign (v := .bool false) rfl) ?_
     refine w_done ?_
     obtain rfl := Option.some.inj he
     refine w_return fn_49 rs_49 (.tmp (v := .bool false) rfl .nil) ?_
     exact ⟨⟨[_, _], rfl⟩, hle, rfl⟩
set_option maxRecDepth 100000 in
set_option maxHeartbeats 2000000 in
theorem life_Life_missed.calls (k : Nat) {H : Hp} {L : Items} {l : life_Life} {r_ : life_Rule} {r : Bool} (he : life_Life_missed.f k l r_ = some r) : Ct Tryd.prog 49 ⟨[.agg ⟨[.int .i64 l.f_Kind, .int .u32 l.f_Seen, .int .i64 l.f_Age, .int .i64 l.f_Missed]⟩, .agg ⟨[.int .i64 r_.f_Hits, .int .i64 r_.f_Window, .int .i64 r_.f_Misses]⟩]⟩ H L (fun v H' L' => L = L' ∧ H = H' ∧ v = .bool r) := by
 refine ct_outs (O := life_Life_missed.out r) (fun _ _ h => h) ?_
 have hle : H.le H := .refl _
 unfold life_Life_missed.f at he
 refine ct_enter (args := [.agg ⟨[.int .i64 l.f_Kind, .int .u32 l.f_Seen, .int .i64 l.f_Age, .int .i64 l.f_Missed]⟩, .agg ⟨[.int .i64 r_.f_Hits, .int .i64 r_.f_Window, .int .i64 r_.f_Misses]⟩]) fn_49 rfl nt_49 rfl ?_
 refine w_seq ?_
 refine w_region rfl ?_
 refine w_a rfl (o_box (v := .agg ⟨[.int .i64 l.f_Kind, .int .u32 l.f_Seen, .int .i64 l.f_Age, .int .i64 l.f_Missed]⟩) rfl rfl) ?_
 rintro _ _ _ ⟨b1, rfl, rfl, rfl⟩
 refine w_a rfl (o_box (v := .agg ⟨[.int .i64 r_.f_Hits, .int .i64 r_.f_Window, .int .i64 r_.f_Misses]⟩) rfl rfl) ?_
 rintro _ _ _ ⟨b2, rfl, rfl, rfl⟩
 refine w_d rfl (d_assign (v := .bool false) rfl) ?_
 refine w_done ?_
 refine w_seq ?_
 refine w_seq ?_
 refine w_region rfl ?_
 refine w_d rfl (d_fld (o' := 0) Tryd.underlying52 rfl sz3 rfl rfl rfl) ?_
 refine w_d rfl (d_loado (v := .int .i64 l.f_Kind) ty3 rfl (.there .here) rfl rfl rfl rfl) ?_
 refine w_done ?_
 refine w_block ?_
 refine w_seq ?_
 refine w_seq ?_
 refine w_region rfl ?_
 refine w_d rfl (d_eql rfl rfl) ?_
 refine w_d rfl (d_assign (v := .bool (decide (l.f_Kind = 0))) rfl) ?_
 refine w_done ?_
 rcases its he with ⟨c3, he⟩ | ⟨c3, he⟩
 ·
  refine w_then rfl (decide_eq_true c3) ?_
  refine w_skip ?_
  refine w_sl 2 (.pointer (some ⟨b1, 0, none⟩)) rfl ?_
  refine w_sl 3 (.pointer (some ⟨b2, 0, none⟩)) rfl ?_
  refine w_sl 4 (.bool false) rfl ?_
  refine w_sl 6 (.int .i64 l.f_Kind) rfl ?_
  refine w_sl 7 (.bool (decide (l.f_Kind = 0))) rfl ?_
  exact life_Life_missed.j1_ok (k := k) hle he
 ·
  refine w_else rfl (decide_eq_false c3) ?_
  refine w_region rfl ?_
  refine w_d rfl (d_eql rfl rfl) ?_
  refine w_d rfl (d_assign (v := .bool (decide (l.f_Kind = 3))) rfl) ?_
  refine w_done ?_
  refine w_sl 2 (.pointer (some ⟨b1, 0, none⟩)) rfl ?_
  refine w_sl 3 (.pointer (some ⟨b2, 0, none⟩)) rfl ?_
  refine w_sl 4 (.bool false) rfl ?_
  refine w_sl 6 (.int .i64 l.f_Kind) rfl ?_
  refine w_sl 7 (.bool (decide (l.f_Kind = 3))) rfl ?_
  exact life_Life_missed.j1_ok (k := k) hle he
end Go.Proofs.YtddcfnhbedpbnaaDoor.GTR

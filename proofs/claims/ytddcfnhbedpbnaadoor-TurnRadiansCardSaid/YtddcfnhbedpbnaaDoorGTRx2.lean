/- A text of this session, written by a program (wip/k/gen.py): Go functions as Lean functions, and proofs that the code comes to them. -/
import Derived.Test.YtddcfnhbedpbnaaDoorGTRx1
namespace Go.Proofs.YtddcfnhbedpbnaaDoor.GTR
open Go Go.RowKit Go.Proofs.YtddcfnhbedpbnaaDoorK Go.Proofs.YtddcfnhbedpbnaaDoor
set_option linter.unusedVariables false
set_option linter.unusedSimpArgs false
/-! ### radome/life.May -/
noncomputable def life_May.C : Code := (Tryd.f34.body).getD .skip
def life_May.out (r : (Option Int)) (H : Hp) (v : Value) : Prop := v = errV 70 r
abbrev life_May.R (H0 : Hp) (L : Items) (r : (Option Int)) : Value → Hp → Items → Prop := fun v H' L' => (∃ p, L' = p ++ L) ∧ H0.le H' ∧ life_May.out r H' v
noncomputable def life_May.f (k : Nat) (r_ : life_Rule) (l : life_Life) : Option (Option Int) := (life_Check.f k (⟨r_.f_Hits, r_.f_Window, r_.f_Misses⟩ : life_Rule)).bind fun y3 => if (!((y3.isSome || (decide (l.f_Age < 1))) || (decide (r_.f_Window < l.f_Age)))) = true → 0 ≤ l.f_Age then ((gd (!(((y3.isSome || (decide (l.f_Age < 1))) || (decide (r_.f_Window < l.f_Age))) || (!decide ((l.f_Seen / 2 ^ shn .u32 l.f_Age) = 0)))) (life_Life_missed.f k (⟨l.f_Kind, l.f_Seen, l.f_Age, l.f_Missed⟩ : life_Life) (⟨r_.f_Hits, r_.f_Window, r_.f_Misses⟩ : life_Rule)) (false)).bind fun y25 => if ((((y3.isSome || (decide (l.f_Age < 1))) || (decide (r_.f_Window < l.f_Age))) || (!decide ((l.f_Seen / 2 ^ shn .u32 l.f_Age) = 0))) || (!y25)) = true then (some (some 1)) else (some (none))) else none
theorem life_May.mono : ∀ k y0 y1, LeO (life_May.f k y0 y1) (life_May.f (k + 1) y0 y1) := fun k _ _ => by unfold life_May.f; exact (LeO.bind (life_Check.mono k _) fun _ => LeO.ite (LeO.bind (LeO.gd (life_Life_missed.mono k _ _)) fun _ => LeO.ite (LeO.refl _) (LeO.refl _)) (LeO.refl _))
set_option maxRecDepth 100000 in
set_option maxHeartbeats 2000000 in
theorem life_May.calls (k : Nat) {H : Hp} {L : Items} {r_ : life_Rule} {l : life_Life} {r : (Option Int)} (he : life_May.f k r_ l = some r) : Ct Tryd.prog 34 ⟨[.agg ⟨[.int .i64 r_.f_Hits, .int .i64 r_.f_Window, .int .i64 r_.f_Misses]⟩, .agg ⟨[.int .i64 l.f_Kind, .int .u32 l.f_Seen, .int .i64 l.f_Age, .int .i64 l.f_Missed]⟩]⟩ H L (fun v H' L' => L = L' ∧ H = H' ∧ v = errV 70 r) := by
 refine ct_outs (O := life_May.out r) (fun _ _ h => h) ?_
 have hle : H.le H := .refl _
 unfold life_May.f at he
 refine ct_enter (args := [.agg ⟨[.int .i64 r_.f_Hits, .int .i64 r_.f_Window, .int .i64 r_.f_Misses]⟩, .agg ⟨[.int .i64 l.f_Kind, .int .u32 l.f_Seen, .int .i64 l.f_Age, .int .i64 l.f_Missed]⟩]) fn_34 rfl nt_34 rfl ?_
 refine w_seq ?_
 refine w_region rfl ?_
 refine w_a rfl (o_box (v := .agg ⟨[.int .i64 r_.f_Hits, .int .i64 r_.f_Window, .int .i64 r_.f_Misses]⟩) rfl rfl) ?_
 rintro _ _ _ ⟨b1, rfl, rfl, rfl⟩
 refine w_a rfl (o_box (v := .agg ⟨[.int .i64 l.f_Kind, .int .u32 l.f_Seen, .int .i64 l.f_Age, .int .i64 l.f_Missed]⟩) rfl rfl) ?_
 rintro _ _ _ ⟨b2, rfl, rfl, rfl⟩
 refine w_d rfl (d_assign (v := errV 70 none) rfl) ?_
 refine w_done ?_
 refine w_seq ?_
 refine w_seq ?_
 refine w_region rfl ?_
 refine w_d rfl (d_loado (v := .agg ⟨[.int .i64 r_.f_Hits, .int .i64 r_.f_Window, .int .i64 r_.f_Misses]⟩) ty55 rfl (.there .here) rfl rfl rfl rfl) ?_
 obtain ⟨y3, hy4, he⟩ := Option.bind_eq_some_iff.1 he
 refine w_d rfl (call_d (o_call co27 (vs := [.agg ⟨[.int .i64 r_.f_Hits, .int .i64 r_.f_Window, .int .i64 r_.f_Misses]⟩]) rfl (life_Check.calls k (r_ := (⟨r_.f_Hits, r_.f_Window, r_.f_Misses⟩ : life_Rule)) hy4))) ?_
 refine w_d rfl (d_nenil (e := y3) Tryd.underlying24 rfl) ?_
 refine w_d rfl (d_move (v := .bool y3.isSome) rfl) ?_
 refine w_g (g := !y3.isSome) rfl rfl rfl wn_f (fun g7 => d_fld (o' := 2) Tryd.underlying52 rfl sz3 rfl rfl rfl) ?_
 refine w_g (g := !y3.isSome) rfl rfl rfl wn_f (fun g8 => d_loado (v := .int .i64 l.f_Age) ty3 (cvt g8) .here rfl rfl rfl rfl) ?_
 refine w_g (g := !y3.isSome) rfl rfl rfl wn_f (fun g9 => d_lss (cvt g9) rfl) ?_
 refine w_d rfl (d_or' (b := y3.isSome) (p := (decide (l.f_Age < 1))) rfl rfl rfl) ?_
 refine w_d rfl (d_move (v := .bool (y3.isSome || (decide (l.f_Age < 1)))) rfl) ?_
 refine w_g (g := !(y3.isSome || (decide (l.f_Age < 1)))) rfl rfl rfl wn_f (fun g10 => d_fld (o' := 2) Tryd.underlying52 rfl sz3 rfl rfl rfl) ?_
 refine w_g (g := !(y3.isSome || (decide (l.f_Age < 1)))) rfl rfl rfl wn_f (fun g11 => d_loado (v := .int .i64 l.f_Age) ty3 (cvt g11) .here rfl rfl rfl rfl) ?_
 refine w_g (g := !(y3.isSome || (decide (l.f_Age < 1)))) rfl rfl rfl wn_f (fun g12 => d_fld (o' := 1) Tryd.underlying55 rfl sz3 rfl rfl rfl) ?_
 refine w_g (g := !(y3.isSome || (decide (l.f_Age < 1)))) rfl rfl rfl wn_f (fun g13 => d_loado (v := .int .i64 r_.f_Window) ty3 (cvt g13) (.there .here) rfl rfl rfl rfl) ?_
 refine w_g (g := !(y3.isSome || (decide (l.f_Age < 1)))) rfl rfl rfl wn_f (fun g14 => d_gtr (cvt g14) (cvt g14)) ?_
 refine w_d rfl (d_or' (b := (y3.isSome || (decide (l.f_Age < 1)))) (p := (decide (r_.f_Window < l.f_Age))) rfl rfl rfl) ?_
 refine w_d rfl (d_move (v := .bool ((y3.isSome || (decide (l.f_Age < 1))) || (decide (r_.f_Window < l.f_Age)))) rfl) ?_
 refine w_g (g := !((y3.isSome || (decide (l.f_Age < 1))) || (decide (r_.f_Window < l.f_Age)))) rfl rfl rfl wn_f (fun g15 => d_fld (o' := 1) Tryd.underlying52 rfl sz37 rfl rfl rfl) ?_
 refine w_g (g := !((y3.isSome || (decide (l.f_Age < 1))) || (decide (r_.f_Window < l.f_Age)))) rfl rfl rfl wn_f (fun g16 => d_loado (v := .int .u32 l.f_Seen) ty37 (cvt g16) .here rfl rfl rfl rfl) ?_
 refine w_g (g := !((y3.isSome || (decide (l.f_Age < 1))) || (decide (r_.f_Window < l.f_Age)))) rfl rfl rfl wn_f (fun g17 => d_fld (o' := 2) Tryd.underlying52 rfl sz3 rfl rfl rfl) ?_
 refine w_g (g := !((y3.isSome || (decide (l.f_Age < 1))) || (decide (r_.f_Window < l.f_Age)))) rfl rfl rfl wn_f (fun g18 => d_loado (v := .int .i64 l.f_Age) ty3 (cvt g18) .here rfl rfl rfl rfl) ?_
 obtain ⟨c20, he⟩ := rq he
 refine w_g (g := !((y3.isSome || (decide (l.f_Age < 1))) || (decide (r_.f_Window < l.f_Age)))) rfl rfl rfl wn_f (fun g19 => d_shr (c := l.f_Seen / 2 ^ shn .u32 l.f_Age) (cvt g19) (cvt g19) (c20 g19) rfl) ?_
 refine w_g (g := !((y3.isSome || (decide (l.f_Age < 1))) || (decide (r_.f_Window < l.f_Age)))) rfl rfl rfl wn_f (fun g21 => d_neq (cvt g21) rfl) ?_
 refine w_d rfl (d_or' (b := ((y3.isSome || (decide (l.f_Age < 1))) || (decide (r_.f_Window < l.f_Age)))) (p := (!decide ((l.f_Seen / 2 ^ shn .u32 l.f_Age) = 0))) rfl rfl rfl) ?_
 refine w_d rfl (d_move (v := .bool (((y3.isSome || (decide (l.f_Age < 1))) || (decide (r_.f_Window < l.f_Age))) || (!decide ((l.f_Seen / 2 ^ shn .u32 l.f_Age) = 0)))) rfl) ?_
 refine w_g (g := !(((y3.isSome || (decide (l.f_Age < 1))) || (decide (r_.f_Window < l.f_Age))) || (!decide ((l.f_Seen / 2 ^ shn .u32 l.f_Age) = 0)))) rfl rfl rfl wn_f (fun g22 => d_loado (v := .agg ⟨[.int .i64 l.f_Kind, .int .u32 l.f_Seen, .int .i64 l.f_Age, .int .i64 l.f_Missed]⟩) ty52 rfl .here rfl rfl rfl rfl) ?_
 refine w_g (g := !(((y3.isSome || (decide (l.f_Age < 1))) || (decide (r_.f_Window < l.f_Age))) || (!decide ((l.f_Seen / 2 ^ shn .u32 l.f_Age) = 0)))) rfl rfl rfl wn_f (fun g23 => d_loado (v := .agg ⟨[.int .i64 r_.f_Hits, .int .i64 r_.f_Window, .int .i64 r_.f_Misses]⟩) ty55 rfl (.there .here) rfl rfl rfl rfl) ?_
 obtain ⟨y25, hy26, he⟩ := Option.bind_eq_some_iff.1 he
 refine w_g (g := !(((y3.isSome || (decide (l.f_Age < 1))) || (decide (r_.f_Window < l.f_Age))) || (!decide ((l.f_Seen / 2 ^ shn .u32 l.f_Age) = 0)))) rfl rfl rfl wn_f (fun g24 => call_d (o_call co49 (vs := [.agg ⟨[.int .i64 l.f_Kind, .int .u32 l.f_Seen, .int .i64 l.f_Age, .int .i64 l.f_Missed]⟩, .agg ⟨[.int .i64 r_.f_Hits, .int .i64 r_.f_Window, .int .i64 r_.f_Misses]⟩]) (acons (cvt g24) (acons (cvt g24) (anil))) (life_Life_missed.calls k (l := (⟨l.f_Kind, l.f_Seen, l.f_Age, l.f_Missed⟩ : life_Life)) (r_ := (⟨r_.f_Hits, r_.f_Window, r_.f_Misses⟩ : life_Rule)) (gd_t g24 hy26)))) ?_
 refine w_g (g := !(((y3.isSome || (decide (l.f_Age < 1))) || (decide (r_.f_Window < l.f_Age))) || (!decide ((l.f_Seen / 2 ^ shn .u32 l.f_Age) = 0)))) rfl rfl rfl wn_f (fun g29 => d_not (b := y25) (cvt g29)) ?_
 refine w_d rfl (d_or' (b := (((y3.isSome || (decide (l.f_Age < 1))) || (decide (r_.f_Window < l.f_Age))) || (!decide ((l.f_Seen / 2 ^ shn .u32 l.f_Age) = 0)))) (p := (!y25)) rfl rfl rfl) ?_
 refine w_done ?_
 rcases its he with ⟨c30, he⟩ | ⟨c30, he⟩
 ·
  refine w_then rfl c30 ?_
  refine w_seq ?_
  refine w_region rfl ?_
  refine w_d rfl (d_iface (v := .int .i64 1) Tryd.underlying70 rfl rfl) ?_
  refine w_d rfl (d_assign (v := errV 70 (some 1)) rfl) ?_
  refine w_done ?_
  obtain rfl := Option.some.inj he
  refine w_return fn_34 rs_34 (.tmp (v := errV 70 (some 1)) rfl .nil) ?_
  exact ⟨⟨[_, _], rfl⟩, hle, rfl⟩
 ·
  refine w_else rfl (Bool.eq_false_iff.2 c30) ?_
  refine w_skip ?_
  refine w_seq ?_
  refine w_region rfl ?_
  refine w_d rfl (d_assign (v := errV 70 none) rfl) ?_
  refine w_done ?_
  obtain rfl := Option.some.inj he
  refine w_return fn_34 rs_34 (.tmp (v := errV 70 none) rfl .nil) ?_
  exact ⟨⟨[_, _], rfl⟩, hle, rfl⟩
/-! ### radome/life.Gone -/
noncomputable def life_Gone.C : Code := (Tryd.f31.body).getD .skip
def life_Gone.out (r : Bool) (H : Hp) (v : Value) : Prop := v = .bool r
abbrev life_Gone.R (H0 : Hp) (L : Items) (r : Bool) : Value → Hp → Items → Prop := fun v H' L' => (∃ p, L' = p ++ L) ∧ H0.le H' ∧ life_Gone.out r H' v
noncomputable def life_Gone.f (k : Nat) (l : life_Life) : Option Bool := some ((decide (l.f_Kind = 3)) || (decide (l.f_Kind = 4)))
theorem life_Gone.mono : ∀ k y0, LeO (life_Gone.f k y0) (life_Gone.f (k + 1) y0) := fun k _ => by unfold life_Gone.f; exact (LeO.refl _)
set_option maxRecDepth 100000 in
set_option maxHeartbeats 2000000 in
theorem life_Gone.calls (k : Nat) {H : Hp} {L : Items} {l : life_Life} {r : Bool} (he : life_Gone.f k l = some r) : Ct Tryd.prog 31 ⟨[.agg ⟨[.int .i64 l.f_Kind, .int .u32 l.f_Seen, .int .i64 l.f_Age, .int .i64 l.f_Missed]⟩]⟩ H L (fun v H' L' => L = L' ∧ H = H' ∧ v = .bool r) := by
 refine ct_outs (O := life_Gone.out r) (fun _ _ h => h) ?_
 have hle : H.le H := .refl _
 unfold life_Gone.f at he
 refine ct_enter (args := [.agg ⟨[.int .i64 l.f_Kind, .int .u32 l.f_Seen, .int .i64 l.f_Age, .int .i64 l.f_Missed]⟩]) fn_31 rfl nt_31 rfl ?_
 refine w_seq ?_
 refine w_region rfl ?_
 refine w_a rfl (o_box (v := .agg ⟨[.int .i64 l.f_Kind, .int .u32 l.f_Seen, .int .i64 l.f_Age, .int .i64 l.f_Missed]⟩) rfl rfl) ?_
 rintro _ _ _ ⟨b1, rfl, rfl, rfl⟩
 refine w_d rfl (d_assign (v := .bool false) rfl) ?_
 refine w_done ?_
 refine w_seq ?_
 refine w_region rfl ?_
 refine w_d rfl (d_fld (o' := 0) Tryd.underlying52 rfl sz3 rfl rfl rfl) ?_
 refine w_d rfl (d_loado (v := .int .i64 l.f_Kind) ty3 rfl .here rfl rfl rfl rfl) ?_
 refine w_d rfl (d_eql rfl rfl) ?_
 refine w_d rfl (d_move (v := .bool (decide (l.f_Kind = 3))) rfl) ?_
 refine w_g (g := !(decide (l.f_Kind = 3))) rfl rfl rfl wn_f (fun g2 => d_fld (o' := 0) Tryd.underlying52 rfl sz3 rfl rfl rfl) ?_
 refine w_g (g := !(decide (l.f_Kind = 3))) rfl rfl rfl wn_f (fun g3 => d_loado (v := .int .i64 l.f_Kind) ty3 (cvt g3) .here rfl rfl rfl rfl) ?_
 refine w_g (g := !(decide (l.f_Kind = 3))) rfl rfl rfl wn_f (fun g4 => d_eql (cvt g4) rfl) ?_
 refine w_d rfl (d_or' (b := (decide (l.f_Kind = 3))) (p := (decide (l.f_Kind = 4))) rfl rfl rfl) ?_
 refine w_d rfl (d_assign (v := .bool ((decide (l.f_Kind = 3)) || (decide (l.f_Kind = 4)))) rfl) ?_
 refine w_done ?_
 obtain rfl := Option.some.inj he
 refine w_return fn_31 rs_31 (.tmp (v := .bool ((decide (l.f_Kind = 3)) || (decide (l.f_Kind = 4)))) rfl .nil) ?_
 exact ⟨⟨[_], rfl⟩, hle, rfl⟩
/-! ### math/bits.OnesCount32 -/
noncomputable def bits_OnesCount32.C : Code := (Tryd.f59.body).getD .skip
def bits_OnesCount32.out (r : Int) (H : Hp) (v : Value) : Prop := v = .int .i64 r
abbrev bits_OnesCount32.R (H0 : Hp) (L : Items) (r : Int) : Value → Hp → Items → Prop := fun v H' L' => (∃ p, L' = p ++ L) ∧ H0.le H' ∧ bits_OnesCount32.out r H' v
noncomputable def bits_OnesCount32.f (k : Nat) (x : Int) : Option Int := if 0 ≤ x / 16777216 ∧ x / 16777216 < (str_0.size : Int) then (if 0 ≤ iand .u32 (x / 65536) 255 ∧ iand .u32 (x / 65536) 255 < (str_0.size : Int) then (if 0 ≤ iand .u32 (x / 256) 255 ∧ iand .u32 (x / 256) 255 < (str_0.size : Int) then (if 0 ≤ iand .u32 x 255 ∧ iand .u32 x 255 < (str_0.size : Int) then (some (w64 (((((((bt str_0 (x / 16777216)) + (bt str_0 (iand .u32 (x / 65536) 255))) % 256) + (bt str_0 (iand .u32 (x / 256) 255))) % 256) + (bt str_0 (iand .u32 x 255))) % 256))) else none) else none) else none) else none
theorem bits_OnesCount32.mono : ∀ k y0, LeO (bits_OnesCount32.f k y0) (bits_OnesCount32.f (k + 1) y0) := fun k _ => by unfold bits_OnesCount32.f; exact (LeO.ite (LeO.ite (LeO.ite (LeO.ite (LeO.refl _) (LeO.refl _)) (LeO.refl _)) (LeO.refl _)) (LeO.refl _))
set_option maxRecDepth 100000 in
set_option maxHeartbeats 2000000 in
theorem bits_OnesCount32.calls (k : Nat) {H : Hp} {L : Items} {x : Int} {r : Int} (he : bits_OnesCount32.f k x = some r) : Ct Tryd.prog 59 ⟨[.int .u32 x]⟩ H L (fun v H' L' => L = L' ∧ H = H' ∧ v = .int .i64 r) := by
 refine ct_outs (O := bits_OnesCount32.out r) (fun _ _ h => h) ?_
 have hle : H.le H := .refl _
 unfold bits_OnesCount32.f at he
 refine ct_enter (args := [.int .u32 x]) fn_59 rfl nt_59 rfl ?_
 refine w_seq ?_
 refine w_region rfl ?_
 refine w_d rfl (d_assign (v := .int .i64 0) rfl) ?_
 refine w_done ?_
 refine w_seq ?_
 obtain ⟨c1, he⟩ := rq he
 obtain ⟨c2, he⟩ := rq he
 obtain ⟨c3, he⟩ := rq he
 obtain ⟨c4, he⟩ := rq he
 refine w_drawn (p := 16) (tl := [16, 17, 18]) [[], [(0, some 3)], [(1, some 4)], [], [(3, some 6)], [(4, some 7)], [(5, some 8)], [(2, some 5), (6, some 9)], [], [(8, some 11)], [(9, some 12)], [(10, some 13)], [(7, some 10), (11, some 14)], [], [(13, some 16)], [(14, some 17)]] [some 3, some 4, some 5, some 6, some 7, some 8, some 9, some 10, some 11, some 12, some 13, some 14, some 15, some 16, some 17, some 18] (fctF [.is (.int .u32 x), .is (.int .u32 (x / 16777216)), .is (.int .u8 (bt str_0 (x / 16777216))), .is (.int .u32 x), .is (.int .u32 (x / 65536)), .is (.int .u32 (iand .u32 (x / 65536) 255)), .is (.int .u8 (bt str_0 (iand .u32 (x / 65536) 255))), .is (.int .u8 (((bt str_0 (x / 16777216)) + (bt str_0 (iand .u32 (x / 65536) 255))) % 256)), .is (.int .u32 x), .is (.int .u32 (x / 256)), .is (.int .u32 (iand .u32 (x / 256) 255)), .is (.int .u8 (bt str_0 (iand .u32 (x / 256) 255))), .is (.int .u8 (((((bt str_0 (x / 16777216)) + (bt str_0 (iand .u32 (x / 65536) 255))) % 256) + (bt str_0 (iand .u32 (x / 256) 255))) % 256)), .is (.int .u32 x), .is (.int .u32 (iand .u32 x 255)), .is (.int .u8 (bt str_0 (iand .u32 x 255)))]) (fun m_ => L) (fun _ => none) mixed (by kernel_rfl) (by kernel_rfl) rfl (fct_mono (by kernel_rfl)) ⟨(by intro H' m_ hH hm_ hu_; refine depK_nil ?_; exact s_d (m_ 0) rfl (d_move (v := .int .u32 x) rfl) (by exact rfl) rfl), (by intro H' m_ hH hm_ hu_; rintro _ rfl; refine depK_nil ?_; exact s_d (m_ 1) rfl (d_shr (c := x / 16777216) rfl rfl (by decide) rfl) (by exact rfl) rfl), (by intro H' m_ hH hm_ hu_; rintro _ rfl; refine depK_nil ?_; exact s_d (m_ 2) rfl (d_bt Tryd.underlying9 rfl rfl c1) (by exact rfl) rfl), (by intro H' m_ hH hm_ hu_; refine depK_nil ?_; exact s_d (m_ 3) rfl (d_move (v := .int .u32 x) rfl) (by exact rfl) rfl), (by intro H' m_ hH hm_ hu_; rintro _ rfl; refine depK_nil ?_; exact s_d (m_ 4) rfl (d_shr (c := x / 65536) rfl rfl (by decide) rfl) (by exact rfl) rfl), (by intro H' m_ hH hm_ hu_; rintro _ rfl; refine depK_nil ?_; exact s_d (m_ 5) rfl (d_band rfl rfl) (by exact rfl) rfl), (by intro H' m_ hH hm_ hu_; rintro _ rfl; refine depK_nil ?_; exact s_d (m_ 6) rfl (d_bt Tryd.underlying9 rfl rfl c2) (by exact rfl) rfl), (by intro H' m_ hH hm_ hu_; rintro _ rfl _ rfl; refine depK_nil ?_; exact s_d (m_ 7) rfl (d_add (c := ((bt str_0 (x / 16777216)) + (bt str_0 (iand .u32 (x / 65536) 255))) % 256) rfl rfl rfl) (by exact rfl) rfl), (by intro H' m_ hH hm_ hu_; refine depK_nil ?_; exact s_d (m_ 8) rfl (d_move (v := .int .u32 x) rfl) (by exact rfl) rfl), (by intro H' m_ hH hm_ hu_; rintro _ rfl; refine depK_nil ?_; exact s_d (m_ 9) rfl (d_shr (c := x / 256) rfl rfl (by decide) rfl) (by exact rfl) rfl), (by intro H' m_ hH hm_ hu_; rintro _ rfl; refine depK_nil ?_; exact s_d (m_ 10) rfl (d_band rfl rfl) (by exact rfl) rfl), (by intro H' m_ hH hm_ hu_; rintro _ rfl; refine depK_nil ?_; exact s_d (m_ 11) rfl (d_bt Tryd.underlying9 rfl rfl c3) (by exact rfl) rfl), (by intro H' m_ hH hm_ hu_; rintro _ rfl _ rfl; refine depK_nil ?_; exact s_d (m_ 12) rfl (d_add (c := ((((bt str_0 (x / 16777216)) + (bt str_0 (iand .u32 (x / 65536) 255))) % 256) + (bt str_0 (iand .u32 (x / 256) 255))) % 256) rfl rfl rfl) (by exact rfl) rfl), (by intro H' m_ hH hm_ hu_; refine depK_nil ?_; exact s_d (m_ 13) rfl (d_move (v := .int .u32 x) rfl) (by exact rfl) rfl), (by intro H' m_ hH hm_ hu_; rintro _ rfl; refine depK_nil ?_; exact s_d (m_ 14) rfl (d_band rfl rfl) (by exact rfl) rfl), (by intro H' m_ hH hm_ hu_; rintro _ rfl; refine depK_nil ?_; exact s_d (m_ 15) rfl (d_bt Tryd.underlying9 rfl rfl c4) (by exact rfl) rfl), trivial⟩ ?_
 intro H5 e6
 rintro _ _ rfl _ _ rfl _ _ rfl _ _ rfl _ _ rfl _ _ rfl _ _ rfl _ _ rfl _ _ rfl _ _ rfl _ _ rfl _ _ rfl _ _ rfl _ _ rfl _ _ rfl _ _ rfl
 refine w_d rfl (d_add (c := ((((((bt str_0 (x / 16777216)) + (bt str_0 (iand .u32 (x / 65536) 255))) % 256) + (bt str_0 (iand .u32 (x / 256) 255))) % 256) + (bt str_0 (iand .u32 x 255))) % 256) rfl rfl rfl) ?_
 refine w_d rfl (d_conv (c := w64 (((((((bt str_0 (x / 16777216)) + (bt str_0 (iand .u32 (x / 65536) 255))) % 256) + (bt str_0 (iand .u32 (x / 256) 255))) % 256) + (bt str_0 (iand .u32 x 255))) % 256)) Tryd.underlying5 Tryd.underlying3 rfl rfl) ?_
 refine w_d rfl (d_assign (v := .int .i64 (w64 (((((((bt str_0 (x / 16777216)) + (bt str_0 (iand .u32 (x / 65536) 255))) % 256) + (bt str_0 (iand .u32 (x / 256) 255))) % 256) + (bt str_0 (iand .u32 x 255))) % 256))) rfl) ?_
 refine w_done ?_
 obtain rfl := Option.some.inj he
 refine w_return fn_59 rs_59 (.tmp (v := .int .i64 (w64 (((((((bt str_0 (x / 16777216)) + (bt str_0 (iand .u32 (x / 65536) 255))) % 256) + (bt str_0 (iand .u32 (x / 256) 255))) % 256) + (bt str_0 (iand .u32 x 255))) % 256))) rfl .nil) ?_
 exact ⟨⟨[], rfl⟩, hle.trans e6, rfl⟩
/-! ### (radome/life.Life).sure -/
noncomputable def life_Life_sure.C : Code := (Tryd.f60.body).getD .skip
def life_Life_sure.out (r : Int) (H : Hp) (v : Value) : Prop := v = .int .i64 r
abbrev life_Life_sure.R (H0 : Hp) (L : Items) (r : Int) : Value → Hp → Items → Prop := fun v H' L' => (∃ p, L' = p ++ L) ∧ H0.le H' ∧ life_Life_sure.out r H' v
noncomputable def life_Life_sure.f (k : Nat) (l : life_Life) (r_ : life_Rule) : Option Int := if l.f_Missed = 0 then (some (1)) else (if l.f_Missed = r_.f_Misses then (some (4)) else (some (2)))
theorem life_Life_sure.mono : ∀ k y0 y1, LeO (life_Life_sure.f k y0 y1) (life_Life_sure.f (k + 1) y0 y1) := fun k _ _ => by unfold life_Life_sure.f; exact (LeO.ite (LeO.refl _) (LeO.ite (LeO.refl _) (LeO.refl _)))
set_option maxRecDepth 100000 in
set_option maxHeartbeats 2000000 in
theorem life_Life_sure.calls (k : Nat) {H : Hp} {L : Items} {l : life_Life} {r_ : life_Rule} {r : Int} (he : life_Life_sure.f k l r_ = some r) : Ct Tryd.prog 60 ⟨[.agg ⟨[.int .i64 l.f_Kind, .int .u32 l.f_Seen, .int .i64 l.f_Age, .int .i64 l.f_Missed]⟩, .agg ⟨[.int .i64 r_.f_Hits, .int .i64 r_.f_Window, .int .i64 r_.f_Misses]⟩]⟩ H L (fun v H' L' => L = L' ∧ H = H' ∧ v = .int .i64 r) := by
 refine ct_outs (O := life_Life_sure.out r) (fun _ _ h => h) ?_
 have hle : H.le H := .refl _
 unfold life_Life_sure.f at he
 refine ct_enter (args := [.agg ⟨[.int .i64 l.f_Kind, .int .u32 l.f_Seen, .int .i64 l.f_Age, .int .i64 l.f_Missed]⟩, .agg ⟨[.int .i64 r_.f_Hits, .int .i64 r_.f_Window, .int .i64 r_.f_Misses]⟩]) fn_60 rfl nt_60 rfl ?_
 refine w_seq ?_
 refine w_region rfl ?_
 refine w_a rfl (o_box (v := .agg ⟨[.int .i64 l.f_Kind, .int .u32 l.f_Seen, .int .i64 l.f_Age, .int .i64 l.f_Missed]⟩) rfl rfl) ?_
 rintro _ _ _ ⟨b1, rfl, rfl, rfl⟩
 refine w_a rfl (o_box (v := .agg ⟨[.int .i64 r_.f_Hits, .int .i64 r_.f_Window, .int .i64 r_.f_Misses]⟩) rfl rfl) ?_
 rintro _ _ _ ⟨b2, rfl, rfl, rfl⟩
 refine w_d rfl (d_assign (v := .int .i64 0) rfl) ?_
 refine w_done ?_
 refine w_seq ?_
 refine w_seq ?_
 refine w_region rfl ?_
 refine w_d rfl (d_fld (o' := 3) Tryd.underlying52 rfl sz3 rfl rfl rfl) ?_
 refine w_d rfl (d_loado (v := .int .i64 l.f_Missed) ty3 rfl (.there .here) rfl rfl rfl rfl) ?_
 refine w_done ?_
 refine w_block ?_
 refine w_seq ?_
 refine w_region rfl ?_
 refine w_d rfl (d_eql rfl rfl) ?_
 refine w_d rfl (d_assign (v := .bool (decide (l.f_Missed = 0))) rfl) ?_
 refine w_done ?_
 rcases its he with ⟨c3, he⟩ | ⟨c3, he⟩
 ·
  refine w_then rfl (decide_eq_true c3) ?_
  refine w_seq ?_
  refine w_region rfl ?_
  refine w_d rfl (d_assign (v := .int .i64 1) rfl) ?_
  refine w_done ?_
  obtain rfl := Option.some.inj he
  refine w_return fn_60 rs_60 (.tmp (v := .int .i64 1) rfl .nil) ?_
  exact ⟨⟨[_, _], rfl⟩, hle, rfl⟩
 ·
  refine w_else rfl (decide_eq_false c3) ?_
  refine w_seq ?_
  refine w_region rfl ?_
  refine w_d rfl (d_fld (o' := 2) Tryd.underlying55 rfl sz3 rfl rfl rfl) ?_
  refine w_d rfl (d_loado (v := .int .i64 r_.f_Misses) ty3 rfl .here rfl rfl rfl rfl) ?_
  refine w_d rfl (d_eql rfl rfl) ?_
  refine w_d rfl (d_assign (v := .bool (decide (l.f_Missed = r_.f_Misses))) rfl) ?_
  refine w_done ?_
  rcases its he with ⟨c4, he⟩ | ⟨c4, he⟩
  ·
   refine w_then rfl (decide_eq_true c4) ?_
   refine w_seq ?_
   refine w_region rfl ?_
   refine w_d rfl (d_assign (v := .int .i64 4) rfl) ?_
   refine w_done ?_
   obtain rfl := Option.some.inj he
   refine w_return fn_60 rs_60 (.tmp (v := .int .i64 4) rfl .nil) ?_
   exact ⟨⟨[_, _], rfl⟩, hle, rfl⟩
  ·
   refine w_else rfl (decide_eq_false c4) ?_
   refine w_skip ?_
   refine w_inBlock ?_
   refine w_seq ?_
   refine w_region rfl ?_
   refine w_d rfl (d_assign (v := .int .i64 2) rfl) ?_
   refine w_done ?_
   obtain rfl := Option.some.inj he
   refine w_return fn_60 rs_60 (.tmp (v := .int .i64 2) rfl .nil) ?_
   exact ⟨⟨[_, _], rfl⟩, hle, rfl⟩
/-! ### (radome/life.Life).kind -/
noncomputable def life_Life_kind.C : Code := (Tryd.f46.body).getD .skip
def life_Life_kind.out (r : Int) (H : Hp) (v : Value) : Prop := v = .int .i64 r
abbrev life_Life_kind.R (H0 : Hp) (L : Items) (r : Int) : Value → Hp → Items → Prop := fun v H' L' => (∃ p, L' = p ++ L) ∧ H0.le H' ∧ life_Life_kind.out r H' v
noncomputable def life_Life_kind.f (k : Nat) (l : life_Life) (r_ : life_Rule) : Option Int := (gd (!(!decide (l.f_Kind = 0))) (bits_OnesCount32.f k l.f_Seen) (0)).bind fun y6 => if ((!decide (l.f_Kind = 0)) || (decide (r_.f_Hits ≤ y6))) = true then ((life_Life_sure.f k (⟨l.f_Kind, l.f_Seen, l.f_Age, l.f_Missed⟩ : life_Life) (⟨r_.f_Hits, r_.f_Window, r_.f_Misses⟩ : life_Rule)).bind fun y16 => some (y16)) else (if ((decide (l.f_Age = r_.f_Window)) || (decide (l.f_Missed = r_.f_Misses))) = true then (some (3)) else (some (0)))
theorem life_Life_kind.mono : ∀ k y0 y1, LeO (life_Life_kind.f k y0 y1) (life_Life_kind.f (k + 1) y0 y1) := fun k _ _ => by unfold life_Life_kind.f; exact (LeO.bind (LeO.gd (bits_OnesCount32.mono k _)) fun _ => LeO.ite (LeO.bind (life_Life_sure.mono k _ _) fun _ => LeO.refl _) (LeO.ite (LeO.refl _) (LeO.refl _)))
set_option maxRecDepth 100000 in
set_option maxHeartbeats 2000000 in
theorem life_Life_kind.calls (k : Nat) {H : Hp} {L : Items} {l : life_Life} {r_ : life_Rule} {r : Int} (he : life_Life_kind.f k l r_ = some r) : Ct Tryd.prog 46 ⟨[.agg ⟨[.int .i64 l.f_Kind, .int .u32 l.f_Seen, .int .i64 l.f_Age, .int .i64 l.f_Missed]⟩, .agg ⟨[.int .i64 r_.f_Hits, .int .i64 r_.f_Window, .int .i64 r_.f_Misses]⟩]⟩ H L (fun v H' L' => L = L' ∧ H = H' ∧ v = .int .i64 r) := by
 refine ct_outs (O := life_Life_kind.out r) (fun _ _ h => h) ?_
 have hle : H.le H := .refl _
 unfold life_Life_kind.f at he
 refine ct_enter (args := [.agg ⟨[.int .i64 l.f_Kind, .int .u32 l.f_Seen, .int .i64 l.f_Age, .int .i64 l.f_Missed]⟩, .agg ⟨[.int .i64 r_.f_Hits, .int .i64 r_.f_Window, .int .i64 r_.f_Misses]⟩]) fn_46 rfl nt_46 rfl ?_
 refine w_seq ?_
 refine w_region rfl ?_
 refine w_a rfl (o_box (v := .agg ⟨[.int .i64 l.f_Kind, .int .u32 l.f_Seen, .int .i64 l.f_Age, .int .i64 l.f_Missed]⟩) rfl rfl) ?_
 rintro _ _ _ ⟨b1, rfl, rfl, rfl⟩
 refine w_a rfl (o_box (v := .agg ⟨[.int .i64 r_.f_Hits, .int .i64 r_.f_Window, .int .i64 r_.f_Misses]⟩) rfl rfl) ?_
 rintro _ _ _ ⟨b2, rfl, rfl, rfl⟩
 refine w_d rfl (d_assign (v := .int .i64 0) rfl) ?_
 refine w_done ?_
 refine w_seq ?_
 refine w_block ?_
 refine w_seq ?_
 obtain ⟨y6, hy7, he⟩ := Option.bind_eq_some_iff.1 he
 refine w_drawn (p := 9) (tl := [9, 10, 11]) [[], [(0, some 6)], [(1, some 7)], [(2, some 8)], [(3, some 9)], [(3, some 9), (4, some 10)], [(3, some 9), (5, some 11)], [(3, some 9)], [(3, some 9), (7, some 13)]] [some 6, some 7, some 8, some 9, some 10, some 11, some 12, some 13, some 14] (fctF [.is (.pointer (some ⟨b1, 0, none⟩)), .is (.int .i64 l.f_Kind), .is (.bool (!decide (l.f_Kind = 0))), .is (.bool (!decide (l.f_Kind = 0))), .is (cond (!(!decide (l.f_Kind = 0))) (.pointer (some ⟨b1, 1, none⟩)) undef), .is (cond (!(!decide (l.f_Kind = 0))) (.int .u32 l.f_Seen) undef), .is (cond (!(!decide (l.f_Kind = 0))) (.int .i64 y6) undef), .is (cond (!(!decide (l.f_Kind = 0))) (.pointer (some ⟨b2, 0, none⟩)) undef), .is (cond (!(!decide (l.f_Kind = 0))) (.int .i64 r_.f_Hits) undef)]) (fun m_ => some (b2, .cells ⟨[.int .i64 r_.f_Hits, .int .i64 r_.f_Window, .int .i64 r_.f_Misses]⟩ 55 (0, 0)) :: some (b1, .cells ⟨[.int .i64 l.f_Kind, .int .u32 l.f_Seen, .int .i64 l.f_Age, .int .i64 l.f_Missed]⟩ 52 (0, 0)) :: L) (fun _ => none) mixed (by kernel_rfl) (by kernel_rfl) rfl (fct_mono (by kernel_rfl)) ⟨(by intro H' m_ hH hm_ hu_; refine depK_nil ?_; exact s_d (m_ 0) rfl (d_fld (o' := 0) Tryd.underlying52 rfl sz3 rfl rfl rfl) (by exact rfl) rfl), (by intro H' m_ hH hm_ hu_; rintro _ rfl; refine depK_nil ?_; exact s_d (m_ 1) rfl (d_loado (v := .int .i64 l.f_Kind) ty3 rfl (.there .here) rfl rfl rfl rfl) (by exact rfl) rfl), (by intro H' m_ hH hm_ hu_; rintro _ rfl; refine depK_nil ?_; exact s_d (m_ 2) rfl (d_neq rfl rfl) (by exact rfl) rfl), (by intro H' m_ hH hm_ hu_; rintro _ rfl; refine depK_nil ?_; exact s_d (m_ 3) rfl (d_move (v := .bool (!decide (l.f_Kind = 0))) rfl) (by exact rfl) rfl), (by intro H' m_ hH hm_ hu_; rintro _ rfl; refine depK_nil ?_; exact s_g (g := !(!decide (l.f_Kind = 0))) (m_ 4) rfl rfl rfl wn_f (fun g3 => d_fld (o' := 1) Tryd.underlying52 rfl sz37 rfl rfl rfl) rfl (by exact fun g_ => cvt g_) (by exact fun g_ => cnt g_)), (by intro H' m_ hH hm_ hu_; rintro _ rfl _ rfl; refine depK_nil ?_; exact s_g (g := !(!decide (l.f_Kind = 0))) (m_ 5) rfl rfl rfl wn_f (fun g4 => d_loado (v := .int .u32 l.f_Seen) ty37 (cvt g4) (.there .here) rfl rfl rfl rfl) rfl (by exact fun g_ => cvt g_) (by exact fun g_ => cnt g_)), (by intro H' m_ hH hm_ hu_; rintro _ rfl _ rfl; refine depK_nil ?_; exact s_g (g := !(!decide (l.f_Kind = 0))) (m_ 6) rfl rfl rfl wn_f (fun g5 => call_d (o_call co59 (vs := [.int .u32 l.f_Seen]) (acons (cvt g5) (anil)) (bits_OnesCount32.calls k (gd_t g5 hy7)))) rfl (by exact fun g_ => cvt g_) (by exact fun g_ => cnt g_)), (by intro H' m_ hH hm_ hu_; rintro _ rfl; refine depK_nil ?_; exact s_g (g := !(!decide (l.f_Kind = 0))) (m_ 7) rfl rfl rfl wn_f (fun g10 => d_fld (o' := 0) Tryd.underlying55 rfl sz3 rfl rfl rfl) rfl (by exact fun g_ => cvt g_) (by exact fun g_ => cnt g_)), (by intro H' m_ hH hm_ hu_; rintro _ rfl _ rfl; refine depK_nil ?_; exact s_g (g := !(!decide (l.f_Kind = 0))) (m_ 8) rfl rfl rfl wn_f (fun g11 => d_loado (v := .int .i64 r_.f_Hits) ty3 (cvt g11) .here rfl rfl rfl rfl) rfl (by exact fun g_ => cvt g_) (by exact fun g_ => cnt g_)), trivial⟩ ?_
 intro H12 e13
 rintro _ _ rfl _ _ rfl _ _ rfl _ _ rfl _ _ rfl _ _ rfl _ _ rfl _ _ rfl _ _ rfl
 refine w_g (g := !(!decide (l.f_Kind = 0))) rfl rfl rfl wn_f (fun g14 => d_geq (cvt g14) (cvt g14)) ?_
 refine w_d rfl (d_or' (b := (!decide (l.f_Kind = 0))) (p := (decide (r_.f_Hits ≤ y6))) rfl rfl rfl) ?_
 refine w_d rfl (d_assign (v := .bool ((!decide (l.f_Kind = 0)) || (decide (r_.f_Hits ≤ y6)))) rfl) ?_
 refine w_done ?_
 rcases its he with ⟨c15, he⟩ | ⟨c15, he⟩
 ·
  refine w_then rfl c15 ?_
  refine w_seq ?_
  refine w_region rfl ?_
  refine w_d rfl (d_loado (v := .agg ⟨[.int .i64 l.f_Kind, .int .u32 l.f_Seen, .int .i64 l.f_Age, .int .i64 l.f_Missed]⟩) ty52 rfl (.there .here) rfl rfl rfl rfl) ?_
  refine w_d rfl (d_loado (v := .agg ⟨[.int .i64 r_.f_Hits, .int .i64 r_.f_Window, .int .i64 r_.f_Misses]⟩) ty55 rfl .here rfl rfl rfl rfl) ?_
  obtain ⟨y16, hy17, he⟩ := Option.bind_eq_some_iff.1 he
  refine w_d rfl (call_d (o_call co60 (vs := [.agg ⟨[.int .i64 l.f_Kind, .int .u32 l.f_Seen, .int .i64 l.f_Age, .int .i64 l.f_Missed]⟩, .agg ⟨[.int .i64 r_.f_Hits, .int .i64 r_.f_Window, .int .i64 r_.f_Misses]⟩]) rfl (life_Life_sure.calls k (l := (⟨l.f_Kind, l.f_Seen, l.f_Age, l.f_Missed⟩ : life_Life)) (r_ := (⟨r_.f_Hits, r_.f_Window, r_.f_Misses⟩ : life_Rule)) hy17))) ?_
  refine w_d rfl (d_assign (v := .int .i64 y16) rfl) ?_
  refine w_done ?_
  obtain rfl := Option.some.inj he
  refine w_return fn_46 rs_46 (.tmp (v := .int .i64 y16) rfl .nil) ?_
  exact ⟨⟨[_, _], rfl⟩, hle.trans e13, rfl⟩
 ·
  refine w_else rfl (Bool.eq_false_iff.2 c15) ?_
  refine w_seq ?_
  refine w_region rfl ?_
  refine w_d rfl (d_fld (o' := 2) Tryd.underlying52 rfl sz3 rfl rfl rfl) ?_
  refine w_d rfl (d_loado (v := .int .i64 l.f_Age) ty3 rfl (.there .here) rfl rfl rfl rfl) ?_
  refine w_d rfl (d_fld (o' := 1) Tryd.underlying55 rfl sz3 rfl rfl rfl) ?_
  refine w_d rfl (d_loado (v := .int .i64 r_.f_Window) ty3 rfl .here rfl rfl rfl rfl) ?_
  refine w_d rfl (d_eql rfl rfl) ?_
  refine w_d rfl (d_move (v := .bool (decide (l.f_Age = r_.f_Window))) rfl) ?_
  refine w_g (g := !(decide (l.f_Age = r_.f_Window))) rfl rfl rfl wn_f (fun g20 => d_fld (o' := 3) Tryd.underlying52 rfl sz3 rfl rfl rfl) ?_
  refine w_g (g := !(decide (l.f_Age = r_.f_Window))) rfl rfl rfl wn_f (fun g21 => d_loado (v := .int .i64 l.f_Missed) ty3 (cvt g21) (.there .here) rfl rfl rfl rfl) ?_
  refine w_g (g := !(decide (l.f_Age = r_.f_Window))) rfl rfl rfl wn_f (fun g22 => d_fld (o' := 2) Tryd.underlying55 rfl sz3 rfl rfl rfl) ?_
  refine w_g (g := !(decide (l.f_Age = r_.f_Window))) rfl rfl rfl wn_f (fun g23 => d_loado (v := .int .i64 r_.f_Misses) ty3 (cvt g23) .here rfl rfl rfl rfl) ?_
  refine w_g (g := !(decide (l.f_Age = r_.f_Window))) rfl rfl rfl wn_f (fun g24 => d_eql (cvt g24) (cvt g24)) ?_
  refine w_d rfl (d_or' (b := (decide (l.f_Age = r_.f_Window))) (p := (decide (l.f_Missed = r_.f_Misses))) rfl rfl rfl) ?_
  refine w_d rfl (d_assign (v := .bool ((decide (l.f_Age = r_.f_Window)) || (decide (l.f_Missed = r_.f_Misses)))) rfl) ?_
  refine w_done ?_
  rcases its he with ⟨c25, he⟩ | ⟨c25, he⟩
  ·
   refine w_then rfl c25 ?_
   refine w_seq ?_
   refine w_region rfl ?_
   refine w_d rfl (d_assign (v := .int .i64 3) rfl) ?_
   refine w_done ?_
   obtain rfl := Option.some.inj he
   refine w_return fn_46 rs_46 (.tmp (v := .int .i64 3) rfl .nil) ?_
   exact ⟨⟨[_, _], rfl⟩, hle.trans e13, rfl⟩
  ·
   refine w_else rfl (Bool.eq_false_iff.2 c25) ?_
   refine w_skip ?_
   refine w_inBlock ?_
   refine w_seq ?_
   refine w_region rfl ?_
   refine w_d rfl (d_assign (v := .int .i64 0) rfl) ?_
   refine w_done ?_
   obtain rfl := Option.some.inj he
   refine w_return fn_46 rs_46 (.tmp (v := .int .i64 0) rfl .nil) ?_
   exact ⟨⟨[_, _], rfl⟩, hle.trans e13, rfl⟩
/-! ### radome/life.Next -/
noncomputable def life_Next.C : Code := (Tryd.f25.body).getD .skip
def life_Next.out (r : life_Life × (Option Int)) (H : Hp) (v : Value) : Prop := v = .tuple ⟨[.agg ⟨[.int .i64 r.1.f_Kind, .int .u32 r.1.f_Seen, .int .i64 r.1.f_Age, .int .i64 r.1.f_Missed]⟩, errV 70 r.2]⟩
abbrev life_Next.R (H0 : Hp) (L : Items) (r : life_Life × (Option Int)) : Value → Hp → Items → Prop := fun v H' L' => (∃ p, L' = p ++ L) ∧ H0.le H' ∧ life_Next.out r H' v
noncomputable def life_Next.j1 (k : Nat)  (r_0 : Int) (r_1 : Int) (r_2 : Int) (l_0 : Int) (l_1 : Int) (l_2 : Int) (l_3 : Int) : Option (life_Life × (Option Int)) := (life_Life_kind.f k (⟨l_0, l_1, l_2, l_3⟩ : life_Life) (⟨r_0, r_1, r_2⟩ : life_Rule)).bind fun y18 => some ((⟨y18, l_1, l_2, l_3⟩ : life_Life), none)
noncomputable def life_Next.f (k : Nat) (r_ : life_Rule) (l : life_Life) (hit : Bool) : Option (life_Life × (Option Int)) := (life_May.f k (⟨r_.f_Hits, r_.f_Window, r_.f_Misses⟩ : life_Rule) (⟨l.f_Kind, l.f_Seen, l.f_Age, l.f_Missed⟩ : life_Life)).bind fun y4 => if y4.isSome = true then (some ((⟨0, 0, 0, 0⟩ : life_Life), y4)) else ((life_Gone.f k (⟨l.f_Kind, l.f_Seen, l.f_Age, l.f_Missed⟩ : life_Life)).bind fun y9 => if y9 = true then (some ((⟨0, 0, 0, 0⟩ : life_Life), some 14)) else (if 0 ≤ r_.f_Window then (if hit = true then (life_Next.j1 k r_.f_Hits r_.f_Window r_.f_Misses l.f_Kind (ior .u32 (iand .u32 ((l.f_Seen * 2) % 4294967296) ((((1 * 2 ^ shn .u32 r_.f_Window) % 4294967296) - 1) % 4294967296)) 1) (min (w64 (l.f_Age + 1)) r_.f_Window) 0) else (life_Next.j1 k r_.f_Hits r_.f_Window r_.f_Misses l.f_Kind (iand .u32 ((l.f_Seen * 2) % 4294967296) ((((1 * 2 ^ shn .u32 r_.f_Window) % 4294967296) - 1) % 4294967296)) (min (w64 (l.f_Age + 1)) r_.f_Window) (min (w64 (l.f_Missed + 1)) r_.f_Misses))) else none))
theorem life_Next.j1_mono {k : Nat} : ∀ y0 y1 y2 y3 y4 y5 y6, LeO (life_Next.j1 k y0 y1 y2 y3 y4 y5 y6) (life_Next.j1 (k + 1) y0 y1 y2 y3 y4 y5 y6) := fun _ _ _ _ _ _ _ => (LeO.bind (life_Life_kind.mono k _ _) fun _ => LeO.refl _)
theorem life_Next.mono : ∀ k y0 y1 y2, LeO (life_Next.f k y0 y1 y2) (life_Next.f (k + 1) y0 y1 y2) := fun k _ _ _ => by unfold life_Next.f; exact (LeO.bind (life_May.mono k _ _) fun _ => LeO.ite (LeO.refl _) (LeO.bind (life_Gone.mono k _) fun _ => LeO.ite (LeO.refl _) (LeO.ite (LeO.ite (life_Next.j1_mono (k := k)  _ _ _ _ _ _ _) (life_Next.j1_mono (k := k)  _ _ _ _ _ _ _)) (LeO.refl _))))
noncomputable def life_Next.Kj1 : List Item := .code (seqR (seqR (seqR (seqR (seqR (seqR (seqR life_Next.C))))))) :: []
set_option maxRecDepth 100000 in
set_option maxHeartbeats 2000000 in
theorem life_Next.j1_ok {k : Nat} {H0 H : Hp} {L : Items} {r : life_Life × (Option Int)} {jk_ : Nat → Value} {r_0 : Int} {r_1 : Int} {r_2 : Int} {l_0 : Int} {l_1 : Int} {l_2 : Int} {l_3 : Int} {b_r_ : Nat} {b_l : Nat} {b_t6 : Nat} (hle : H0.le H) (he : life_Next.j1 k r_0 r_1 r_2 l_0 l_1 l_2 l_3 = some r) : Wp Tryd.prog 25 54 life_Next.Kj1 (upd (upd (upd (upd jk_ 3 (.pointer (some ⟨b_r_, 0, none⟩))) 4 (.pointer (some ⟨b_l, 0, none⟩))) 6 (.pointer (some ⟨b_t6, 0, none⟩))) 7 (errV 70 none)) H (some (b_t6, .cells ⟨[.int .i64 0, .int .u32 0, .int .i64 0, .int .i64 0]⟩ 52 (0, 0)) :: some (b_l, .cells ⟨[.int .i64 l_0, .int .u32 l_1, .int .i64 l_2, .int .i64 l_3]⟩ 52 (0, 0)) :: some (b_r_, .cells ⟨[.int .i64 r_0, .int .i64 r_1, .int .i64 r_2]⟩ 55 (0, 0)) :: L) (life_Next.R H0 L r) := by
 unfold life_Next.j1 at he
 unfold life_Next.Kj1
 refine w_seq ?_
 refine w_region rfl ?_
 refine w_d rfl (d_loado (v := .agg ⟨[.int .i64 l_0, .int .u32 l_1, .int .i64 l_2, .int .i64 l_3]⟩) ty52 rfl (.there .here) rfl rfl rfl rfl) ?_
 refine w_d rfl (d_loado (v := .agg ⟨[.int .i64 r_0, .int .i64 r_1, .int .i64 r_2]⟩) ty55 rfl (.there (.there .here)) rfl rfl rfl rfl) ?_
 obtain ⟨y18, hy19, he⟩ := Option.bind_eq_some_iff.1 he
 refine w_d rfl (call_d (o_call co46 (vs := [.agg ⟨[.int .i64 l_0, .int .u32 l_1, .int .i64 l_2, .int .i64 l_3]⟩, .agg ⟨[.int .i64 r_0, .int .i64 r_1, .int .i64 r_2]⟩]) rfl (life_Life_kind.calls k (l := (⟨l_0, l_1, l_2, l_3⟩ : life_Life)) (r_ := (⟨r_0, r_1, r_2⟩ : life_Rule)) hy19))) ?_
 refine w_d rfl (d_fld (o' := 0) Tryd.underlying52 rfl sz3 rfl rfl rfl) ?_
 refine w_a0 rfl (o_store (v := .int .i64 y18) sz3 rfl rfl rfl rfl (one_cons rfl one_nil) (.there .here) (.here .done)) ?_
 rintro _ _ _ ⟨rfl, rfl, rfl⟩
 refine w_done ?_
 refine w_seq ?_
 refine w_region rfl ?_
 refine w_d rfl (d_loado (v := .agg ⟨[.int .i64 y18, .int .u32 l_1, .int .i64 l_2, .int .i64 l_3]⟩) ty52 rfl (.there .here) rfl rfl rfl rfl) ?_
 refine w_a0 rfl (o_store (v := .agg ⟨[.int .i64 y18, .int .u32 l_1, .int .i64 l_2, .int .i64 l_3]⟩) sz52 rfl rfl rfl rfl (one_cons rfl (one_cons rfl (one_cons rfl (one_cons rfl one_nil)))) .here (.here (.here (.here (.here .done))))) ?_
 rintro _ _ _ ⟨rfl, rfl, rfl⟩
 refine w_d rfl (d_assign (v := errV 70 none) rfl) ?_
 refine w_done ?_
 obtain rfl := Option.some.inj he
 refine w_return fn_25 rs_25 (.box (v := .agg ⟨[.int .i64 y18, .int .u32 l_1, .int .i64 l_2, .int .i64 l_3]⟩) rfl ty52 rfl rfl .here rfl (.tmp (v := errV 70 none) rfl .nil)) ?_
 exact ⟨⟨[_, _, _], rfl⟩, hle, rfl⟩
set_option maxRecDepth 100000 in
set_option maxHeartbeats 2000000 in
theorem life_Next.calls (k : Nat) {H : Hp} {L : Items} {r_ : life_Rule} {l : life_Life} {hit : Bool} {r : life_Life × (Option Int)} (he : life_Next.f k r_ l hit = some r) : Ct Tryd.prog 25 ⟨[.agg ⟨[.int .i64 r_.f_Hits, .int .i64 r_.f_Window, .int .i64 r_.f_Misses]⟩, .agg ⟨[.int .i64 l.f_Kind, .int .u32 l.f_Seen, .int .i64 l.f_Age, .int .i64 l.f_Missed]⟩, .bool hit]⟩ H L (fun v H' L' => L = L' ∧ H = H' ∧ v = .tuple ⟨[.agg ⟨[.int .i64 r.1.f_Kind, .int .u32 r.1.f_Seen, .int .i64 r.1.f_Age, .int .i64 r.1.f_Missed]⟩, errV 70 r.2]⟩) := by
 refine ct_outs (O := life_Next.out r) (fun _ _ h => h) ?_
 have hle : H.le H := .refl _
 unfold life_Next.f at he
 refine ct_enter (args := [.agg ⟨[.int .i64 r_.f_Hits, .int .i64 r_.f_Window, .int .i64 r_.f_Misses]⟩, .agg ⟨[.int .i64 l.f_Kind, .int .u32 l.f_Seen, .int .i64 l.f_Age, .int .i64 l.f_Missed]⟩, .bool hit]) fn_25 rfl nt_25 rfl ?_
 refine w_seq ?_
 refine w_region rfl ?_
 refine w_a rfl (o_box (v := .agg ⟨[.int .i64 r_.f_Hits, .int .i64 r_.f_Window, .int .i64 r_.f_Misses]⟩) rfl rfl) ?_
 rintro _ _ _ ⟨b1, rfl, rfl, rfl⟩
 refine w_a rfl (o_box (v := .agg ⟨[.int .i64 l.f_Kind, .int .u32 l.f_Seen, .int .i64 l.f_Age, .int .i64 l.f_Missed]⟩) rfl rfl) ?_
 rintro _ _ _ ⟨b2, rfl, rfl, rfl⟩
 refine w_a rfl (o_alloc zr52 rfl) ?_
 rintro _ _ _ ⟨b3, rfl, rfl, rfl⟩
 refine w_d rfl (d_assign (v := errV 70 none) rfl) ?_
 refine w_done ?_
 refine w_seq ?_
 refine w_seq ?_
 refine w_region rfl ?_
 refine w_d rfl (d_loado (v := .agg ⟨[.int .i64 r_.f_Hits, .int .i64 r_.f_Window, .int .i64 r_.f_Misses]⟩) ty55 rfl (.there (.there .here)) rfl rfl rfl rfl) ?_
 refine w_d rfl (d_loado (v := .agg ⟨[.int .i64 l.f_Kind, .int .u32 l.f_Seen, .int .i64 l.f_Age, .int .i64 l.f_Missed]⟩) ty52 rfl (.there .here) rfl rfl rfl rfl) ?_
 obtain ⟨y4, hy5, he⟩ := Option.bind_eq_some_iff.1 he
 refine w_d rfl (call_d (o_call co34 (vs := [.agg ⟨[.int .i64 r_.f_Hits, .int .i64 r_.f_Window, .int .i64 r_.f_Misses]⟩, .agg ⟨[.int .i64 l.f_Kind, .int .u32 l.f_Seen, .int .i64 l.f_Age, .int .i64 l.f_Missed]⟩]) rfl (life_May.calls k (r_ := (⟨r_.f_Hits, r_.f_Window, r_.f_Misses⟩ : life_Rule)) (l := (⟨l.f_Kind, l.f_Seen, l.f_Age, l.f_Missed⟩ : life_Life)) hy5))) ?_
 refine w_d rfl (d_assign (v := errV 70 y4) rfl) ?_
 refine w_done ?_
 refine w_seq ?_
 refine w_region rfl ?_
 refine w_d rfl (d_move (v := errV 70 y4) rfl) ?_
 refine w_d rfl (d_nenil (e := y4) Tryd.underlying24 rfl) ?_
 refine w_done ?_
 rcases its he with ⟨c8, he⟩ | ⟨c8, he⟩
 ·
  refine w_then rfl c8 ?_
  refine w_seq ?_
  refine w_region rfl ?_
  refine w_d rfl (d_build (cs' := [.int .i64 0, .int .u32 0, .int .i64 0, .int .i64 0]) Tryd.underlying52 zr52 rfl (by kernel_rfl) (parts := []) rfl .nil) ?_
  refine w_d rfl (d_move (v := errV 70 y4) rfl) ?_
  refine w_a0 rfl (o_store (v := .agg ⟨[.int .i64 0, .int .u32 0, .int .i64 0, .int .i64 0]⟩) sz52 rfl rfl rfl rfl (one_cons rfl (one_cons rfl (one_cons rfl (one_cons rfl one_nil)))) .here (.here (.here (.here (.here .done))))) ?_
  rintro _ _ _ ⟨rfl, rfl, rfl⟩
  refine w_d rfl (d_assign (v := errV 70 y4) rfl) ?_
  refine w_done ?_
  obtain rfl := Option.some.inj he
  refine w_return fn_25 rs_25 (.box (v := .agg ⟨[.int .i64 0, .int .u32 0, .int .i64 0, .int .i64 0]⟩) rfl ty52 rfl rfl .here rfl (.tmp (v := errV 70 y4) rfl .nil)) ?_
  exact ⟨⟨[_, _, _], rfl⟩, hle, rfl⟩
 ·
  refine w_else rfl (Bool.eq_false_iff.2 c8) ?_
  refine w_skip ?_
  refine w_seq ?_
  refine w_seq ?_
  refine w_region rfl ?_
  refine w_d rfl (d_loado (v := .agg ⟨[.int .i64 l.f_Kind, .int .u32 l.f_Seen, .int .i64 l.f_Age, .int .i64 l.f_Missed]⟩) ty52 rfl (.there .here) rfl rfl rfl rfl) ?_
  obtain ⟨y9, hy10, he⟩ := Option.bind_eq_some_iff.1 he
  refine w_d rfl (call_d (o_call co31 (vs := [.agg ⟨[.int .i64 l.f_Kind, .int .u32 l.f_Seen, .int .i64 l.f_Age, .int .i64 l.f_Missed]⟩]) rfl (life_Gone.calls k (l := (⟨l.f_Kind, l.f_Seen, l.f_Age, l.f_Missed⟩ : life_Life)) hy10))) ?_
  refine w_done ?_
  rcases its he with ⟨c13, he⟩ | ⟨c13, he⟩
  ·
   refine w_then rfl c13 ?_
   refine w_seq ?_
   refine w_region rfl ?_
   refine w_d rfl (d_build (cs' := [.int .i64 0, .int .u32 0, .int .i64 0, .int .i64 0]) Tryd.underlying52 zr52 rfl (by kernel_rfl) (parts := []) rfl .nil) ?_
   refine w_d rfl (d_iface (v := .int .i64 14) Tryd.underlying70 rfl rfl) ?_
   refine w_a0 rfl (o_store (v := .agg ⟨[.int .i64 0, .int .u32 0, .int .i64 0, .int .i64 0]⟩) sz52 rfl rfl rfl rfl (one_cons rfl (one_cons rfl (one_cons rfl (one_cons rfl one_nil)))) .here (.here (.here (.here (.here .done))))) ?_
   rintro _ _ _ ⟨rfl, rfl, rfl⟩
   refine w_d rfl (d_assign (v := errV 70 (some 14)) rfl) ?_
   refine w_done ?_
   obtain rfl := Option.some.inj he
   refine w_return fn_25 rs_25 (.box (v := .agg ⟨[.int .i64 0, .int .u32 0, .int .i64 0, .int .i64 0]⟩) rfl ty52 rfl rfl .here rfl (.tmp (v := errV 70 (some 14)) rfl .nil)) ?_
   exact ⟨⟨[_, _, _], rfl⟩, hle, rfl⟩
  ·
   refine w_else rfl (Bool.eq_false_iff.2 c13) ?_
   refine w_skip ?_
   refine w_seq ?_
   obtain ⟨c14, he⟩ := rq he
   refine w_drawn (p := 7) (tl := [7, 8, 9]) [[], [(0, some 20)], [(1, some 21)], [], [(3, some 23)], [(4, some 24)], [(5, some 25)]] [some 20, some 21, some 22, some 23, some 24, some 25, some 26] (fctF [.is (.pointer (some ⟨b2, 1, none⟩)), .is (.int .u32 l.f_Seen), .is (.int .u32 ((l.f_Seen * 2) % 4294967296)), .is (.pointer (some ⟨b1, 1, none⟩)), .is (.int .i64 r_.f_Window), .is (.int .u32 ((1 * 2 ^ shn .u32 r_.f_Window) % 4294967296)), .is (.int .u32 ((((1 * 2 ^ shn .u32 r_.f_Window) % 4294967296) - 1) % 4294967296))]) (fun m_ => some (b3, .cells ⟨[.int .i64 0, .int .u32 0, .int .i64 0, .int .i64 0]⟩ 52 (0, 0)) :: some (b2, .cells ⟨[.int .i64 l.f_Kind, .int .u32 l.f_Seen, .int .i64 l.f_Age, .int .i64 l.f_Missed]⟩ 52 (0, 0)) :: some (b1, .cells ⟨[.int .i64 r_.f_Hits, .int .i64 r_.f_Window, .int .i64 r_.f_Misses]⟩ 55 (0, 0)) :: L) (fun _ => none) mixed (by kernel_rfl) (by kernel_rfl) rfl (fct_mono (by kernel_rfl)) ⟨(by intro H' m_ hH hm_ hu_; refine depK_nil ?_; exact s_d (m_ 0) rfl (d_fld (o' := 1) Tryd.underlying52 rfl sz37 rfl rfl rfl) (by exact rfl) rfl), (by intro H' m_ hH hm_ hu_; rintro _ rfl; refine depK_nil ?_; exact s_d (m_ 1) rfl (d_loado (v := .int .u32 l.f_Seen) ty37 rfl (.there .here) rfl rfl rfl rfl) (by exact rfl) rfl), (by intro H' m_ hH hm_ hu_; rintro _ rfl; refine depK_nil ?_; exact s_d (m_ 2) rfl (d_shl (c := (l.f_Seen * 2) % 4294967296) rfl rfl (by decide) rfl) (by exact rfl) rfl), (by intro H' m_ hH hm_ hu_; refine depK_nil ?_; exact s_d (m_ 3) rfl (d_fld (o' := 1) Tryd.underlying55 rfl sz3 rfl rfl rfl) (by exact rfl) rfl), (by intro H' m_ hH hm_ hu_; rintro _ rfl; refine depK_nil ?_; exact s_d (m_ 4) rfl (d_loado (v := .int .i64 r_.f_Window) ty3 rfl (.there (.there .here)) rfl rfl rfl rfl) (by exact rfl) rfl), (by intro H' m_ hH hm_ hu_; rintro _ rfl; refine depK_nil ?_; exact s_d (m_ 5) rfl (d_shl (c := (1 * 2 ^ shn .u32 r_.f_Window) % 4294967296) rfl rfl c14 rfl) (by exact rfl) rfl), (by intro H' m_ hH hm_ hu_; rintro _ rfl; refine depK_nil ?_; exact s_d (m_ 6) rfl (d_sub (c := (((1 * 2 ^ shn .u32 r_.f_Window) % 4294967296) - 1) % 4294967296) rfl rfl rfl) (by exact rfl) rfl), trivial⟩ ?_
   intro H15 e16
   rintro _ _ rfl _ _ rfl _ _ rfl _ _ rfl _ _ rfl _ _ rfl _ _ rfl
   refine w_d rfl (d_band rfl rfl) ?_
   refine w_d rfl (d_fld (o' := 1) Tryd.underlying52 rfl sz37 rfl rfl rfl) ?_
   refine w_a0 rfl (o_store (v := .int .u32 (iand .u32 ((l.f_Seen * 2) % 4294967296) ((((1 * 2 ^ shn .u32 r_.f_Window) % 4294967296) - 1) % 4294967296))) sz37 rfl rfl rfl rfl (one_cons rfl one_nil) (.there .here) (.there (.here .done))) ?_
   rintro _ _ _ ⟨rfl, rfl, rfl⟩
   refine w_done ?_
   refine w_seq ?_
   refine w_region rfl ?_
   refine w_d rfl (d_fld (o' := 2) Tryd.underlying52 rfl sz3 rfl rfl rfl) ?_
   refine w_d rfl (d_loado (v := .int .i64 l.f_Age) ty3 rfl (.there .here) rfl rfl rfl rfl) ?_
   refine w_d rfl (d_add (c := w64 (l.f_Age + 1)) rfl rfl rfl) ?_
   refine w_d rfl (d_fld (o' := 1) Tryd.underlying55 rfl sz3 rfl rfl rfl) ?_
   refine w_d rfl (d_loado (v := .int .i64 r_.f_Window) ty3 rfl (.there (.there .here)) rfl rfl rfl rfl) ?_
   refine w_d rfl (d_min rfl rfl) ?_
   refine w_d rfl (d_fld (o' := 2) Tryd.underlying52 rfl sz3 rfl rfl rfl) ?_
   refine w_a0 rfl (o_store (v := .int .i64 (min (w64 (l.f_Age + 1)) r_.f_Window)) sz3 rfl rfl rfl rfl (one_cons rfl one_nil) (.there .here) (.there (.there (.here .done)))) ?_
   rintro _ _ _ ⟨rfl, rfl, rfl⟩
   refine w_done ?_
   refine w_seq ?_
   refine w_region rfl ?_
   refine w_d rfl (d_fld (o' := 3) Tryd.underlying52 rfl sz3 rfl rfl rfl) ?_
   refine w_d rfl (d_loado (v := .int .i64 l.f_Missed) ty3 rfl (.there .here) rfl rfl rfl rfl) ?_
   refine w_d rfl (d_add (c := w64 (l.f_Missed + 1)) rfl rfl rfl) ?_
   refine w_d rfl (d_fld (o' := 2) Tryd.underlying55 rfl sz3 rfl rfl rfl) ?_
   refine w_d rfl (d_loado (v := .int .i64 r_.f_Misses) ty3 rfl (.there (.there .here)) rfl rfl rfl rfl) ?_
   refine w_d rfl (d_min rfl rfl) ?_
   refine w_d rfl (d_fld (o' := 3) Tryd.underlying52 rfl sz3 rfl rfl rfl) ?_
   refine w_a0 rfl (o_store (v := .int .i64 (min (w64 (l.f_Missed + 1)) r_.f_Misses)) sz3 rfl rfl rfl rfl (one_cons rfl one_nil) (.there .here) (.there (.there (.there (.here .done))))) ?_
   rintro _ _ _ ⟨rfl, rfl, rfl⟩
   refine w_done ?_
   refine w_seq ?_
   refine w_seq ?_
   refine w_region rfl ?_
   refine w_d rfl (d_move (v := .bool hit) rfl) ?_
   refine w_done ?_
   rcases its he with ⟨c17, he⟩ | ⟨c17, he⟩
   ·
    refine w_then rfl c17 ?_
    refine w_seq ?_
    refine w_region rfl ?_
    refine w_d rfl (d_fld (o' := 1) Tryd.underlying52 rfl sz37 rfl rfl rfl) ?_
    refine w_d rfl (d_loado (v := .int .u32 (iand .u32 ((l.f_Seen * 2) % 4294967296) ((((1 * 2 ^ shn .u32 r_.f_Window) % 4294967296) - 1) % 4294967296))) ty37 rfl (.there .here) rfl rfl rfl rfl) ?_
    refine w_d rfl (d_bor rfl rfl) ?_
    refine w_d rfl (d_fld (o' := 1) Tryd.underlying52 rfl sz37 rfl rfl rfl) ?_
    refine w_a0 rfl (o_store (v := .int .u32 (ior .u32 (iand .u32 ((l.f_Seen * 2) % 4294967296) ((((1 * 2 ^ shn .u32 r_.f_Window) % 4294967296) - 1) % 4294967296)) 1)) sz37 rfl rfl rfl rfl (one_cons rfl one_nil) (.there .here) (.there (.here .done))) ?_
    rintro _ _ _ ⟨rfl, rfl, rfl⟩
    refine w_done ?_
    refine w_region rfl ?_
    refine w_d rfl (d_fld (o' := 3) Tryd.underlying52 rfl sz3 rfl rfl rfl) ?_
    refine w_a0 rfl (o_store (v := .int .i64 0) sz3 rfl rfl rfl rfl (one_cons rfl one_nil) (.there .here) (.there (.there (.there (.here .done))))) ?_
    rintro _ _ _ ⟨rfl, rfl, rfl⟩
    refine w_done ?_
    refine w_sl 3 (.pointer (some ⟨b1, 0, none⟩)) rfl ?_
    refine w_sl 4 (.pointer (some ⟨b2, 0, none⟩)) rfl ?_
    refine w_sl 6 (.pointer (some ⟨b3, 0, none⟩)) rfl ?_
    refine w_sl 7 (errV 70 none) rfl ?_
    exact life_Next.j1_ok (k := k) (hle.trans e16) he
   ·
    refine w_else rfl (Bool.eq_false_iff.2 c17) ?_
    refine w_skip ?_
    refine w_sl 3 (.pointer (some ⟨b1, 0, none⟩)) rfl ?_
    refine w_sl 4 (.pointer (some ⟨b2, 0, none⟩)) rfl ?_
    refine w_sl 6 (.pointer (some ⟨b3, 0, none⟩)) rfl ?_
    refine w_sl 7 (errV 70 none) rfl ?_
    exact life_Next.j1_ok (k := k) (hle.trans e16) he
/-! ### radome/radomelaw23.sure -/
noncomputable def radomelaw23_sure.C : Code := (Tryd.f28.body).getD .skip
def radomelaw23_sure.out (r : Bool) (H : Hp) (v : Value) : Prop := v = .bool r
abbrev radomelaw23_sure.R (H0 : Hp) (L : Items) (r : Bool) : Value → Hp → Items → Prop := fun v H' L' => (∃ p, L' = p ++ L) ∧ H0.le H' ∧ radomelaw23_sure.out r H' v
noncomputable def radomelaw23_sure.f (k : Nat)  : Option Bool := (life_Born.f k (⟨2, 3, 3⟩ : life_Rule)).bind fun y2 => (life_Next.f k (⟨2, 3, 3⟩ : life_Rule) (⟨y2.1.f_Kind, y2.1.f_Seen, y2.1.f_Age, y2.1.f_Missed⟩ : life_Life) false).bind fun y7 => (life_Next.f k (⟨2, 3, 3⟩ : life_Rule) (⟨y7.1.f_Kind, y7.1.f_Seen, y7.1.f_Age, y7.1.f_Missed⟩ : life_Life) true).bind fun y12 => (gd ((((((y2.2.isNone && y7.2.isNone) && y12.2.isNone) && (decide (y2.1.f_Kind = 0))) && (decide (y7.1.f_Kind = 0))) && (decide (y12.1.f_Kind = 1))) && (decide (y12.1.f_Seen = 5))) (life_Gone.f k (⟨y12.1.f_Kind, y12.1.f_Seen, y12.1.f_Age, y12.1.f_Missed⟩ : life_Life)) (false)).bind fun y35 => some (((((((y2.2.isNone && y7.2.isNone) && y12.2.isNone) && (decide (y2.1.f_Kind = 0))) && (decide (y7.1.f_Kind = 0))) && (decide (y12.1.f_Kind = 1))) && (decide (y12.1.f_Seen = 5))) && (!y35))
theorem radomelaw23_sure.mono : ∀ k, LeO (radomelaw23_sure.f k) (radomelaw23_sure.f (k + 1)) := fun k => by unfold radomelaw23_sure.f; exact (LeO.bind (life_Born.mono k _) fun _ => LeO.bind (life_Next.mono k _ _ _) fun _ => LeO.bind (life_Next.mono k _ _ _) fun _ => LeO.bind (LeO.gd (life_Gone.mono k _)) fun _ => LeO.refl _)
set_option maxRecDepth 100000 in
set_option maxHeartbeats 2000000 in
theorem radomelaw23_sure.calls (k : Nat) {H : Hp} {L : Items} {r : Bool} (he : radomelaw23_sure.f k  = some r) : Ct Tryd.prog 28 ⟨[]⟩ H L (fun v H' L' => L = L' ∧ H = H' ∧ v = .bool r) := by
 refine ct_outs (O := radomelaw23_sure.out r) (fun _ _ h => h) ?_
 have hle : H.le H := .refl _
 unfold radomelaw23_sure.f at he
 refine ct_enter (args := []) fn_28 rfl nt_28 rfl ?_
 refine w_seq ?_
 refine w_region rfl ?_
 refine w_d rfl (d_assign (v := .bool false) rfl) ?_
 refine w_done ?_
 refine w_seq ?_
 refine w_region rfl ?_
 refine w_d rfl (d_build (cs' := [.int .i64 2, .int .i64 3, .int .i64 3]) Tryd.underlying55 zr55 rfl (by kernel_rfl) (parts := [(0, .int .i64 2), (1, .int .i64 3), (2, .int .i64 3)]) rfl (.cons (place_of rfl sz3 rfl) rfl rfl (.here .done) (.cons (place_of rfl sz3 rfl) rfl rfl (.there (.here .done)) (.cons (place_of rfl sz3 rfl) rfl rfl (.there (.there (.here .done))) .nil)))) ?_
 refine w_a rfl (o_alloc zr55 rfl) ?_
 rintro _ _ _ ⟨b1, rfl, rfl, rfl⟩
 refine w_a0 rfl (o_store (v := .agg ⟨[.int .i64 2, .int .i64 3, .int .i64 3]⟩) sz55 rfl rfl rfl rfl (one_cons rfl (one_cons rfl (one_cons rfl one_nil))) .here (.here (.here (.here .done)))) ?_
 rintro _ _ _ ⟨rfl, rfl, rfl⟩
 refine w_done ?_
 refine w_seq ?_
 refine w_region rfl ?_
 refine w_d rfl (d_loado (v := .agg ⟨[.int .i64 2, .int .i64 3, .int .i64 3]⟩) ty55 rfl .here rfl rfl rfl rfl) ?_
 obtain ⟨y2, hy3, he⟩ := Option.bind_eq_some_iff.1 he
 refine w_d rfl (call_d (o_call co23 (vs := [.agg ⟨[.int .i64 2, .int .i64 3, .int .i64 3]⟩]) rfl (life_Born.calls k (r_ := (⟨2, 3, 3⟩ : life_Rule)) hy3))) ?_
 refine w_d rfl (d_move (v := .tuple ⟨[.agg ⟨[.int .i64 y2.1.f_Kind, .int .u32 y2.1.f_Seen, .int .i64 y2.1.f_Age, .int .i64 y2.1.f_Missed]⟩, errV 70 y2.2]⟩) rfl) ?_
 refine w_d rfl (d_ext (vs := [.agg ⟨[.int .i64 y2.1.f_Kind, .int .u32 y2.1.f_Seen, .int .i64 y2.1.f_Age, .int .i64 y2.1.f_Missed]⟩, errV 70 y2.2]) rfl rfl) ?_
 refine w_d rfl (d_ext (vs := [.agg ⟨[.int .i64 y2.1.f_Kind, .int .u32 y2.1.f_Seen, .int .i64 y2.1.f_Age, .int .i64 y2.1.f_Missed]⟩, errV 70 y2.2]) rfl rfl) ?_
 refine w_a rfl (o_alloc zr52 rfl) ?_
 rintro _ _ _ ⟨b6, rfl, rfl, rfl⟩
 refine w_a0 rfl (o_store (v := .agg ⟨[.int .i64 y2.1.f_Kind, .int .u32 y2.1.f_Seen, .int .i64 y2.1.f_Age, .int .i64 y2.1.f_Missed]⟩) sz52 rfl rfl rfl rfl (one_cons rfl (one_cons rfl (one_cons rfl (one_cons rfl one_nil)))) .here (.here (.here (.here (.here .done))))) ?_
 rintro _ _ _ ⟨rfl, rfl, rfl⟩
 refine w_d rfl (d_assign (v := errV 70 y2.2) rfl) ?_
 refine w_done ?_
 refine w_seq ?_
 refine w_region rfl ?_
 refine w_d rfl (d_loado (v := .agg ⟨[.int .i64 2, .int .i64 3, .int .i64 3]⟩) ty55 rfl (.there .here) rfl rfl rfl rfl) ?_
 refine w_d rfl (d_loado (v := .agg ⟨[.int .i64 y2.1.f_Kind, .int .u32 y2.1.f_Seen, .int .i64 y2.1.f_Age, .int .i64 y2.1.f_Missed]⟩) ty52 rfl .here rfl rfl rfl rfl) ?_
 obtain ⟨y7, hy8, he⟩ := Option.bind_eq_some_iff.1 he
 refine w_d rfl (call_d (o_call co25 (vs := [.agg ⟨[.int .i64 2, .int .i64 3, .int .i64 3]⟩, .agg ⟨[.int .i64 y2.1.f_Kind, .int .u32 y2.1.f_Seen, .int .i64 y2.1.f_Age, .int .i64 y2.1.f_Missed]⟩, .bool false]) rfl (life_Next.calls k (r_ := (⟨2, 3, 3⟩ : life_Rule)) (l := (⟨y2.1.f_Kind, y2.1.f_Seen, y2.1.f_Age, y2.1.f_Missed⟩ : life_Life)) hy8))) ?_
 refine w_d rfl (d_move (v := .tuple ⟨[.agg ⟨[.int .i64 y7.1.f_Kind, .int .u32 y7.1.f_Seen, .int .i64 y7.1.f_Age, .int .i64 y7.1.f_Missed]⟩, errV 70 y7.2]⟩) rfl) ?_
 refine w_d rfl (d_ext (vs := [.agg ⟨[.int .i64 y7.1.f_Kind, .int .u32 y7.1.f_Seen, .int .i64 y7.1.f_Age, .int .i64 y7.1.f_Missed]⟩, errV 70 y7.2]) rfl rfl) ?_
 refine w_d rfl (d_ext (vs := [.agg ⟨[.int .i64 y7.1.f_Kind, .int .u32 y7.1.f_Seen, .int .i64 y7.1.f_Age, .int .i64 y7.1.f_Missed]⟩, errV 70 y7.2]) rfl rfl) ?_
 refine w_a rfl (o_alloc zr52 rfl) ?_
 rintro _ _ _ ⟨b11, rfl, rfl, rfl⟩
 refine w_a0 rfl (o_store (v := .agg ⟨[.int .i64 y7.1.f_Kind, .int .u32 y7.1.f_Seen, .int .i64 y7.1.f_Age, .int .i64 y7.1.f_Missed]⟩) sz52 rfl rfl rfl rfl (one_cons rfl (one_cons rfl (one_cons rfl (one_cons rfl one_nil)))) .here (.here (.here (.here (.here .done))))) ?_
 rintro _ _ _ ⟨rfl, rfl, rfl⟩
 refine w_d rfl (d_assign (v := errV 70 y7.2) rfl) ?_
 refine w_done ?_
 refine w_seq ?_
 refine w_region rfl ?_
 refine w_d rfl (d_loado (v := .agg ⟨[.int .i64 2, .int .i64 3, .int .i64 3]⟩) ty55 rfl (.there (.there .here)) rfl rfl rfl rfl) ?_
 refine w_d rfl (d_loado (v := .agg ⟨[.int .i64 y7.1.f_Kind, .int .u32 y7.1.f_Seen, .int .i64 y7.1.f_Age, .int .i64 y7.1.f_Missed]⟩) ty52 rfl .here rfl rfl rfl rfl) ?_
 obtain ⟨y12, hy13, he⟩ := Option.bind_eq_some_iff.1 he
 refine w_d rfl (call_d (o_call co25 (vs := [.agg ⟨[.int .i64 2, .int .i64 3, .int .i64 3]⟩, .agg ⟨[.int .i64 y7.1.f_Kind, .int .u32 y7.1.f_Seen, .int .i64 y7.1.f_Age, .int .i64 y7.1.f_Missed]⟩, .bool true]) rfl (life_Next.calls k (r_ := (⟨2, 3, 3⟩ : life_Rule)) (l := (⟨y7.1.f_Kind, y7.1.f_Seen, y7.1.f_Age, y7.1.f_Missed⟩ : life_Life)) hy13))) ?_
 refine w_d rfl (d_move (v := .tuple ⟨[.agg ⟨[.int .i64 y12.1.f_Kind, .int .u32 y12.1.f_Seen, .int .i64 y12.1.f_Age, .int .i64 y12.1.f_Missed]⟩, errV 70 y12.2]⟩) rfl) ?_
 refine w_d rfl (d_ext (vs := [.agg ⟨[.int .i64 y12.1.f_Kind, .int .u32 y12.1.f_Seen, .int .i64 y12.1.f_Age, .int .i64 y12.1.f_Missed]⟩, errV 70 y12.2]) rfl rfl) ?_
 refine w_d rfl (d_ext (vs := [.agg ⟨[.int .i64 y12.1.f_Kind, .int .u32 y12.1.f_Seen, .int .i64 y12.1.f_Age, .int .i64 y12.1.f_Missed]⟩, errV 70 y12.2]) rfl rfl) ?_
 refine w_a rfl (o_alloc zr52 rfl) ?_
 rintro _ _ _ ⟨b16, rfl, rfl, rfl⟩
 refine w_a0 rfl (o_store (v := .agg ⟨[.int .i64 y12.1.f_Kind, .int .u32 y12.1.f_Seen, .int .i64 y12.1.f_Age, .int .i64 y12.1.f_Missed]⟩) sz52 rfl rfl rfl rfl (one_cons rfl (one_cons rfl (one_cons rfl (one_cons rfl one_nil)))) .here (.here (.here (.here (.here .done))))) ?_
 rintro _ _ _ ⟨rfl, rfl, rfl⟩
 refine w_d rfl (d_assign (v := errV 70 y12.2) rfl) ?_
 refine w_done ?_
 refine w_seq ?_
 refine w_region rfl ?_
 refine w_d rfl (d_move (v := errV 70 y2.2) rfl) ?_
 refine w_d rfl (d_eqnil (e := y2.2) Tryd.underlying24 rfl) ?_
 refine w_d rfl (d_move (v := .bool y2.2.isNone) rfl) ?_
 refine w_g (g := y2.2.isNone) rfl rfl rfl wn_t (fun g17 => d_move (v := errV 70 y7.2) rfl) ?_
 refine w_g (g := y2.2.isNone) rfl rfl rfl wn_t (fun g18 => d_eqnil (e := y7.2) Tryd.underlying24 (cvt g18)) ?_
 refine w_d rfl (d_and' (b := y2.2.isNone) (p := y7.2.isNone) rfl rfl rfl) ?_
 refine w_d rfl (d_move (v := .bool (y2.2.isNone && y7.2.isNone)) rfl) ?_
 refine w_g (g := y2.2.isNone && y7.2.isNone) rfl rfl rfl wn_t (fun g19 => d_move (v := errV 70 y12.2) rfl) ?_
 refine w_g (g := y2.2.isNone && y7.2.isNone) rfl rfl rfl wn_t (fun g20 => d_eqnil (e := y12.2) Tryd.underlying24 (cvt g20)) ?_
 refine w_d rfl (d_and' (b := (y2.2.isNone && y7.2.isNone)) (p := y12.2.isNone) rfl rfl rfl) ?_
 refine w_d rfl (d_move (v := .bool ((y2.2.isNone && y7.2.isNone) && y12.2.isNone)) rfl) ?_
 refine w_g (g := (y2.2.isNone && y7.2.isNone) && y12.2.isNone) rfl rfl rfl wn_t (fun g21 => d_fld (o' := 0) Tryd.underlying52 rfl sz3 rfl rfl rfl) ?_
 refine w_g (g := (y2.2.isNone && y7.2.isNone) && y12.2.isNone) rfl rfl rfl wn_t (fun g22 => d_loado (v := .int .i64 y2.1.f_Kind) ty3 (cvt g22) (.there (.there .here)) rfl rfl rfl rfl) ?_
 refine w_g (g := (y2.2.isNone && y7.2.isNone) && y12.2.isNone) rfl rfl rfl wn_t (fun g23 => d_eql (cvt g23) rfl) ?_
 refine w_d rfl (d_and' (b := ((y2.2.isNone && y7.2.isNone) && y12.2.isNone)) (p := (decide (y2.1.f_Kind = 0))) rfl rfl rfl) ?_
 refine w_d rfl (d_move (v := .bool (((y2.2.isNone && y7.2.isNone) && y12.2.isNone) && (decide (y2.1.f_Kind = 0)))) rfl) ?_
 refine w_g (g := ((y2.2.isNone && y7.2.isNone) && y12.2.isNone) && (decide (y2.1.f_Kind = 0))) rfl rfl rfl wn_t (fun g24 => d_fld (o' := 0) Tryd.underlying52 rfl sz3 rfl rfl rfl) ?_
 refine w_g (g := ((y2.2.isNone && y7.2.isNone) && y12.2.isNone) && (decide (y2.1.f_Kind = 0))) rfl rfl rfl wn_t (fun g25 => d_loado (v := .int .i64 y7.1.f_Kind) ty3 (cvt g25) (.there .here) rfl rfl rfl rfl) ?_
 refine w_g (g := ((y2.2.isNone && y7.2.isNone) && y12.2.isNone) && (decide (y2.1.f_Kind = 0))) rfl rfl rfl wn_t (fun g26 => d_eql (cvt g26) rfl) ?_
 refine w_d rfl (d_and' (b := (((y2.2.isNone && y7.2.isNone) && y12.2.isNone) && (decide (y2.1.f_Kind = 0)))) (p := (decide (y7.1.f_Kind = 0))) rfl rfl rfl) ?_
 refine w_d rfl (d_move (v := .bool ((((y2.2.isNone && y7.2.isNone) && y12.2.isNone) && (decide (y2.1.f_Kind = 0))) && (decide (y7.1.f_Kind = 0)))) rfl) ?_
 refine w_g (g := (((y2.2.isNone && y7.2.isNone) && y12.2.isNone) && (decide (y2.1.f_Kind = 0))) && (decide (y7.1.f_Kind = 0))) rfl rfl rfl wn_t (fun g27 => d_fld (o' := 0) Tryd.underlying52 rfl sz3 rfl rfl rfl) ?_
 refine w_g (g := (((y2.2.isNone && y7.2.isNone) && y12.2.isNone) && (decide (y2.1.f_Kind = 0))) && (decide (y7.1.f_Kind = 0))) rfl rfl rfl wn_t (fun g28 => d_loado (v := .int .i64 y12.1.f_Kind) ty3 (cvt g28) .here rfl rfl rfl rfl) ?_
 refine w_g (g := (((y2.2.isNone && y7.2.isNone) && y12.2.isNone) && (decide (y2.1.f_Kind = 0))) && (decide (y7.1.f_Kind = 0))) rfl rfl rfl wn_t (fun g29 => d_eql (cvt g29) rfl) ?_
 refine w_d rfl (d_and' (b := ((((y2.2.isNone && y7.2.isNone) && y12.2.isNone) && (decide (y2.1.f_Kind = 0))) && (decide (y7.1.f_Kind = 0)))) (p := (decide (y12.1.f_Kind = 1))) rfl rfl rfl) ?_
 refine w_d rfl (d_move (v := .bool (((((y2.2.isNone && y7.2.isNone) && y12.2.isNone) && (decide (y2.1.f_Kind = 0))) && (decide (y7.1.f_Kind = 0))) && (decide (y12.1.f_Kind = 1)))) rfl) ?_
 refine w_g (g := ((((y2.2.isNone && y7.2.isNone) && y12.2.isNone) && (decide (y2.1.f_Kind = 0))) && (decide (y7.1.f_Kind = 0))) && (decide (y12.1.f_Kind = 1))) rfl rfl rfl wn_t (fun g30 => d_fld (o' := 1) Tryd.underlying52 rfl sz37 rfl rfl rfl) ?_
 refine w_g (g := ((((y2.2.isNone && y7.2.isNone) && y12.2.isNone) && (decide (y2.1.f_Kind = 0))) && (decide (y7.1.f_Kind = 0))) && (decide (y12.1.f_Kind = 1))) rfl rfl rfl wn_t (fun g31 => d_loado (v := .int .u32 y12.1.f_Seen) ty37 (cvt g31) .here rfl rfl rfl rfl) ?_
 refine w_g (g := ((((y2.2.isNone && y7.2.isNone) && y12.2.isNone) && (decide (y2.1.f_Kind = 0))) && (decide (y7.1.f_Kind = 0))) && (decide (y12.1.f_Kind = 1))) rfl rfl rfl wn_t (fun g32 => d_eql (cvt g32) rfl) ?_
 refine w_d rfl (d_and' (b := (((((y2.2.isNone && y7.2.isNone) && y12.2.isNone) && (decide (y2.1.f_Kind = 0))) && (decide (y7.1.f_Kind = 0))) && (decide (y12.1.f_Kind = 1)))) (p := (decide (y12.1.f_Seen = 5))) rfl rfl rfl) ?_
 refine w_d rfl (d_move (v := .bool ((((((y2.2.isNone && y7.2.isNone) && y12.2.isNone) && (decide (y2.1.f_Kind = 0))) && (decide (y7.1.f_Kind = 0))) && (decide (y12.1.f_Kind = 1))) && (decide (y12.1.f_Seen = 5)))) rfl) ?_
 refine w_g (g := (((((y2.2.isNone && y7.2.isNone) && y12.2.isNone) && (decide (y2.1.f_Kind = 0))) && (decide (y7.1.f_Kind = 0))) && (decide (y12.1.f_Kind = 1))) && (decide (y12.1.f_Seen = 5))) rfl rfl rfl wn_t (fun g33 => d_loado (v := .agg ⟨[.int .i64 y12.1.f_Kind, .int .u32 y12.1.f_Seen, .int .i64 y12.1.f_Age, .int .i64 y12.1.f_Missed]⟩) ty52 rfl .here rfl rfl rfl rfl) ?_
 obtain ⟨y35, hy36, he⟩ := Option.bind_eq_some_iff.1 he
 refine w_g (g := (((((y2.2.isNone && y7.2.isNone) && y12.2.isNone) && (decide (y2.1.f_Kind = 0))) && (decide (y7.1.f_Kind = 0))) && (decide (y12.1.f_Kind = 1))) && (decide (y12.1.f_Seen = 5))) rfl rfl rfl wn_t (fun g34 => call_d (o_call co31 (vs := [.agg ⟨[.int .i64 y12.1.f_Kind, .int .u32 y12.1.f_Seen, .int .i64 y12.1.f_Age, .int .i64 y12.1.f_Missed]⟩]) (acons (cvt g34) (anil)) (life_Gone.calls k (l := (⟨y12.1.f_Kind, y12.1.f_Seen, y12.1.f_Age, y12.1.f_Missed⟩ : life_Life)) (gd_t g34 hy36)))) ?_
 refine w_g (g := (((((y2.2.isNone && y7.2.isNone) && y12.2.isNone) && (decide (y2.1.f_Kind = 0))) && (decide (y7.1.f_Kind = 0))) && (decide (y12.1.f_Kind = 1))) && (decide (y12.1.f_Seen = 5))) rfl rfl rfl wn_t (fun g39 => d_not (b := y35) (cvt g39)) ?_
 refine w_d rfl (d_and' (b := ((((((y2.2.isNone && y7.2.isNone) && y12.2.isNone) && (decide (y2.1.f_Kind = 0))) && (decide (y7.1.f_Kind = 0))) && (decide (y12.1.f_Kind = 1))) && (decide (y12.1.f_Seen = 5)))) (p := (!y35)) rfl rfl rfl) ?_
 refine w_d rfl (d_assign (v := .bool (((((((y2.2.isNone && y7.2.isNone) && y12.2.isNone) && (decide (y2.1.f_Kind = 0))) && (decide (y7.1.f_Kind = 0))) && (decide (y12.1.f_Kind = 1))) && (decide (y12.1.f_Seen = 5))) && (!y35))) rfl) ?_
 refine w_done ?_
 obtain rfl := Option.some.inj he
 refine w_return fn_28 rs_28 (.tmp (v := .bool (((((((y2.2.isNone && y7.2.isNone) && y12.2.isNone) && (decide (y2.1.f_Kind = 0))) && (decide (y7.1.f_Kind = 0))) && (decide (y12.1.f_Kind = 1))) && (decide (y12.1.f_Seen = 5))) && (!y35))) rfl .nil) ?_
 exact ⟨⟨[_, _, _, _], rfl⟩, hle, rfl⟩
/-! ### radome/radomeref23.Born -/
noncomputable def radomeref23_Born.C : Code := (Tryd.f29.body).getD .skip
def radomeref23_Born.out (r : radomeref23_Life) (H : Hp) (v : Value) : Prop := ∃ v0, v = .agg ⟨[.int .i64 r.f_Kind, v0, .int .i64 r.f_Missed]⟩ ∧ Ro Kd.bool H v0 r.f_Seen
theorem radomeref23_Born.out_mono (r : radomeref23_Life) {H H' : Hp} {v : Value} (hle : H.le H') (h : radomeref23_Born.out r H v) : radomeref23_Born.out r H' v := by
 obtain ⟨v0, rfl, h0⟩ := h; exact ⟨v0, rfl, h0.mono hle⟩
abbrev radomeref23_Born.R (H0 : Hp) (L : Items) (r : radomeref23_Life) : Value → Hp → Items → Prop := fun v H' L' => (∃ p, L' = p ++ L) ∧ H0.le H' ∧ radomeref23_Born.out r H' v
noncomputable def radomeref23_Born.f (k : Nat) (r_ : radomeref23_Rule) : Option radomeref23_Life := if r_.f_Hits = 1 then (some ((⟨1, [true], 0⟩ : radomeref23_Life))) else (if r_.f_Window = 1 then (some ((⟨3, [true], 0⟩ : radomeref23_Life))) else (some ((⟨0, [true], 0⟩ : radomeref23_Life))))
theorem radomeref23_Born.mono : ∀ k y0, LeO (radomeref23_Born.f k y0) (radomeref23_Born.f (k + 1) y0) := fun k _ => by unfold radomeref23_Born.f; exact (LeO.ite (LeO.refl _) (LeO.ite (LeO.refl _) (LeO.refl _)))
set_option maxRecDepth 100000 in
set_option maxHeartbeats 2000000 in
theorem radomeref23_Born.calls (k : Nat) {H : Hp} {L : Items} {r_ : radomeref23_Rule} {r : radomeref23_Life} (he : radomeref23_Born.f k r_ = some r) : Ct Tryd.prog 29 ⟨[.agg ⟨[.int .i64 r_.f_Hits, .int .i64 r_.f_Window, .int .i64 r_.f_Misses]⟩]⟩ H L (fun v H' L' => L = L' ∧ H.le H' ∧ radomeref23_Born.out r H' v) := by
 refine ct_out (O := radomeref23_Born.out r) ?_
 have hle : H.le H := .refl _
 unfold radomeref23_Born.f at he
 refine ct_enter (args := [.agg ⟨[.int .i64 r_.f_Hits, .int .i64 r_.f_Window, .int .i64 r_.f_Misses]⟩]) fn_29 rfl nt_29 rfl ?_
 refine w_seq ?_
 refine w_region rfl ?_
 refine w_a rfl (o_box (v := .agg ⟨[.int .i64 r_.f_Hits, .int .i64 r_.f_Window, .int .i64 r_.f_Misses]⟩) rfl rfl) ?_
 rintro _ _ _ ⟨b1, rfl, rfl, rfl⟩
 refine w_a rfl (o_alloc zr60 rfl) ?_
 rintro _ _ _ ⟨b2, rfl, rfl, rfl⟩
 refine w_done ?_
 refine w_seq ?_
 refine w_region rfl ?_
 refine w_a rfl (o_buildSlice' (kd := Kd.bool) (css := [[.bool true]]) (xs := [true]) (parts := [(0, .bool true)]) Tryd.underlying50 ti4 rfl ⟨_, _, rfl, rfl, rfl⟩ ⟨rfl, trivial⟩ rfl (by decide)) ?_
 rintro v3 _ _ ⟨i4, rfl, rfl, h5⟩
 refine w_freeze h5 .here ?_
 intro H6 e7 h8
 refine w_d rfl (d_build (cs' := [.int .i64 0, v3, .int .i64 0]) Tryd.underlying60 zr60 rfl (by kernel_rfl) (parts := [(1, v3)]) rfl (.cons (place_of rfl sz50 rfl) h8.cells rfl (.there (.here .done)) .nil)) ?_
 refine w_a rfl (o_alloc zr60 rfl) ?_
 rintro _ _ _ ⟨b9, rfl, rfl, rfl⟩
 refine w_a0 rfl (o_store (v := .agg ⟨[.int .i64 0, v3, .int .i64 0]⟩) sz60 rfl rfl rfl rfl (one_cons rfl (one_cons (h8.one) (one_cons rfl one_nil))) .here (.here (.here (.here .done)))) ?_
 rintro _ _ _ ⟨rfl, rfl, rfl⟩
 refine w_done ?_
 refine w_seq ?_
 refine w_seq ?_
 refine w_region rfl ?_
 refine w_d rfl (d_fld (o' := 0) Tryd.underlying49 rfl sz3 rfl rfl rfl) ?_
 refine w_d rfl (d_loado (v := .int .i64 r_.f_Hits) ty3 rfl (.there (.there (.there .here))) rfl rfl rfl rfl) ?_
 refine w_d rfl (d_eql rfl rfl) ?_
 refine w_done ?_
 rcases its he with ⟨c10, he⟩ | ⟨c10, he⟩
 ·
  refine w_then rfl (decide_eq_true c10) ?_
  refine w_region rfl ?_
  refine w_d rfl (d_fld (o' := 0) Tryd.underlying60 rfl sz3 rfl rfl rfl) ?_
  refine w_a0 rfl (o_store (v := .int .i64 1) sz3 rfl rfl rfl rfl (one_cons rfl one_nil) .here (.here .done)) ?_
  rintro _ _ _ ⟨rfl, rfl, rfl⟩
  refine w_done ?_
  refine w_seq ?_
  refine w_region rfl ?_
  refine w_d rfl (d_loado (v := .agg ⟨[.int .i64 1, v3, .int .i64 0]⟩) ty60 rfl .here rfl rfl rfl rfl) ?_
  refine w_a0 rfl (o_store (v := .agg ⟨[.int .i64 1, v3, .int .i64 0]⟩) sz60 rfl rfl rfl rfl (one_cons rfl (one_cons (h8.one) (one_cons rfl one_nil))) (.there (.there .here)) (.here (.here (.here .done)))) ?_
  rintro _ _ _ ⟨rfl, rfl, rfl⟩
  refine w_done ?_
  obtain rfl := Option.some.inj he
  refine w_return fn_29 rs_29 (.box (v := .agg ⟨[.int .i64 1, v3, .int .i64 0]⟩) rfl ty60 rfl rfl (.there (.there .here)) rfl .nil) ?_
  exact ⟨⟨[_, _, _, _], rfl⟩, hle.trans e7, ⟨v3, rfl, h8⟩⟩
 ·
  refine w_else rfl (decide_eq_false c10) ?_
  refine w_seq ?_
  refine w_region rfl ?_
  refine w_d rfl (d_fld (o' := 1) Tryd.underlying49 rfl sz3 rfl rfl rfl) ?_
  refine w_d rfl (d_loado (v := .int .i64 r_.f_Window) ty3 rfl (.there (.there (.there .here))) rfl rfl rfl rfl) ?_
  refine w_d rfl (d_eql rfl rfl) ?_
  refine w_done ?_
  rcases its he with ⟨c11, he⟩ | ⟨c11, he⟩
  ·
   refine w_then rfl (decide_eq_true c11) ?_
   refine w_region rfl ?_
   refine w_d rfl (d_fld (o' := 0) Tryd.underlying60 rfl sz3 rfl rfl rfl) ?_
   refine w_a0 rfl (o_store (v := .int .i64 3) sz3 rfl rfl rfl rfl (one_cons rfl one_nil) .here (.here .done)) ?_
   rintro _ _ _ ⟨rfl, rfl, rfl⟩
   refine w_done ?_
   refine w_seq ?_
   refine w_region rfl ?_
   refine w_d rfl (d_loado (v := .agg ⟨[.int .i64 3, v3, .int .i64 0]⟩) ty60 rfl .here rfl rfl rfl rfl) ?_
   refine w_a0 rfl (o_store (v := .agg ⟨[.int .i64 3, v3, .int .i64 0]⟩) sz60 rfl rfl rfl rfl (one_cons rfl (one_cons (h8.one) (one_cons rfl one_nil))) (.there (.there .here)) (.here (.here (.here .done)))) ?_
   rintro _ _ _ ⟨rfl, rfl, rfl⟩
   refine w_done ?_
   obtain rfl := Option.some.inj he
   refine w_return fn_29 rs_29 (.box (v := .agg ⟨[.int .i64 3, v3, .int .i64 0]⟩) rfl ty60 rfl rfl (.there (.there .here)) rfl .nil) ?_
   exact ⟨⟨[_, _, _, _], rfl⟩, hle.trans e7, ⟨v3, rfl, h8⟩⟩
  ·
   refine w_else rfl (decide_eq_false c11) ?_
   refine w_skip ?_
   refine w_seq ?_
   refine w_region rfl ?_
   refine w_d rfl (d_loado (v := .agg ⟨[.int .i64 0, v3, .int .i64 0]⟩) ty60 rfl .here rfl rfl rfl rfl) ?_
   refine w_a0 rfl (o_store (v := .agg ⟨[.int .i64 0, v3, .int .i64 0]⟩) sz60 rfl rfl rfl rfl (one_cons rfl (one_cons (h8.one) (one_cons rfl one_nil))) (.there (.there .here)) (.here (.here (.here .done)))) ?_
   rintro _ _ _ ⟨rfl, rfl, rfl⟩
   refine w_done ?_
   obtain rfl := Option.some.inj he
   refine w_return fn_29 rs_29 (.box (v := .agg ⟨[.int .i64 0, v3, .int .i64 0]⟩) rfl ty60 rfl rfl (.there (.there .here)) rfl .nil) ?_
   exact ⟨⟨[_, _, _, _], rfl⟩, hle.trans e7, ⟨v3, rfl, h8⟩⟩
/-! ### radome/radomeref23.Bits -/
noncomputable def radomeref23_Bits.C : Code := (Tryd.f47.body).getD .skip
def radomeref23_Bits.out (r : Int) (H : Hp) (v : Value) : Prop := v = .int .u32 r
abbrev radomeref23_Bits.R (H0 : Hp) (L : Items) (r : Int) : Value → Hp → Items → Prop := fun v H' L' => (∃ p, L' = p ++ L) ∧ H0.le H' ∧ radomeref23_Bits.out r H' v
structure radomeref23_Bits.Hs where
 l0 : (List Bool) → Int → Int → Option Int
noncomputable def radomeref23_Bits.b0 (k : Nat) (h : radomeref23_Bits.Hs)  (l : List Bool) (n : Int) (i : Int) : Option Int := if i < (l.length : Int) then (if 0 ≤ i ∧ i < (l.length : Int) then (if (rd l i) = true then (h.l0 l ((((2 * n) % 4294967296) + 1) % 4294967296) (w64 (i + 1))) else (h.l0 l ((2 * n) % 4294967296) (w64 (i + 1)))) else none) else (some (n))
noncomputable def radomeref23_Bits.hs : Nat → radomeref23_Bits.Hs
 | 0 => ⟨fun _ _ _ => none⟩
 | k + 1 => ⟨fun x0 x1 x2 => radomeref23_Bits.b0 k (radomeref23_Bits.hs k) x0 x1 x2⟩
noncomputable def radomeref23_Bits.f (k : Nat) (l : List Bool) : Option Int := (fun h : radomeref23_Bits.Hs => h.l0 l 0 0) (radomeref23_Bits.hs k)
structure radomeref23_Bits.LE (h h' : radomeref23_Bits.Hs) : Prop where
 l0 : ∀ y0 y1 y2, LeO (h.l0 y0 y1 y2) (h'.l0 y0 y1 y2)
theorem radomeref23_Bits.b0_mono {k : Nat} {h h' : radomeref23_Bits.Hs} (hl : radomeref23_Bits.LE h h') : ∀ y0 y1 y2, LeO (radomeref23_Bits.b0 k h y0 y1 y2) (radomeref23_Bits.b0 (k + 1) h' y0 y1 y2) := fun _ _ _ => (LeO.ite (LeO.ite (LeO.ite (hl.l0 _ _ _) (hl.l0 _ _ _)) (LeO.refl _)) (LeO.refl _))
theorem radomeref23_Bits.hs_mono : ∀ k, radomeref23_Bits.LE (radomeref23_Bits.hs k) (radomeref23_Bits.hs (k + 1))
 | 0 => ⟨fun _ _ _ => LeO.none _⟩
 | k + 1 => ⟨radomeref23_Bits.b0_mono (k := k) (radomeref23_Bits.hs_mono k)⟩
theorem radomeref23_Bits.mono : ∀ k y0, LeO (radomeref23_Bits.f k y0) (radomeref23_Bits.f (k + 1) y0) := fun k _ => have hl := radomeref23_Bits.hs_mono k; by unfold radomeref23_Bits.f; exact (hl.l0 _ _ _)
noncomputable def radomeref23_Bits.Kl0 : List Item := .code (lopB (blkB (seqR (seqL (seqR (seqR radomeref23_Bits.C)))))) :: .inLoop (lopB (blkB (seqR (seqL (seqR (seqR radomeref23_Bits.C)))))) :: .inBlock 0 :: .code (seqR (seqR (seqR radomeref23_Bits.C))) :: []
structure radomeref23_Bits.OK (h : radomeref23_Bits.Hs) : Prop where
 l0 : ∀ {H0 H : Hp} {L : Items} {r : Int} {jk_ : Nat → Value} {l : List Bool} {n : Int} {i : Int} {v_l : Value} (_ : H0.le H) (_he : h.l0 l n i = some r) (_h_l : Ro Kd.bool H v_l l), Wp Tryd.prog 47 20 radomeref23_Bits.Kl0 (upd (upd (upd (upd jk_ 0 (v_l)) 2 (.int .u32 0)) 3 (.int .u32 n)) 4 (.int .i64 i)) H (L) (radomeref23_Bits.R H0 L r)
set_option maxRecDepth 100000 in
set_option maxHeartbeats 2000000 in
theorem radomeref23_Bits.b0_ok {k : Nat} {h : radomeref23_Bits.Hs} (hh : radomeref23_Bits.OK h) {H0 H : Hp} {L : Items} {r : Int} {jk_ : Nat → Value} {l : List Bool} {n : Int} {i : Int} {v_l : Value} (hle : H0.le H) (he : radomeref23_Bits.b0 k h l n i = some r) (h_l : Ro Kd.bool H v_l l) : Wp Tryd.prog 47 20 radomeref23_Bits.Kl0 (upd (upd (upd (upd jk_ 0 (v_l)) 2 (.int .u32 0)) 3 (.int .u32 n)) 4 (.int .i64 i)) H (L) (radomeref23_Bits.R H0 L r) := by
 unfold radomeref23_Bits.b0 at he
 unfold radomeref23_Bits.Kl0
 refine w_seq ?_
 refine w_seq ?_
 refine w_region rfl ?_
 refine w_d rfl (d_move (v := .int .i64 i) rfl) ?_
 refine w_d rfl (d_move (v := v_l) rfl) ?_
 refine w_d rfl (d_len Tryd.underlying50 rfl h_l.src) ?_
 refine w_d rfl (d_lss rfl rfl) ?_
 refine w_done ?_
 rcases its he with ⟨c1, he⟩ | ⟨c1, he⟩
 ·
  refine w_then rfl (decide_eq_true c1) ?_
  refine w_skip ?_
  refine w_seq ?_
  refine w_block ?_
  refine w_seq ?_
  refine w_region rfl ?_
  refine w_d rfl (d_move (v := .int .u32 n) rfl) ?_
  refine w_d rfl (d_mul (c := (2 * n) % 4294967296) rfl rfl rfl) ?_
  refine w_d rfl (d_assign (v := .int .u32 ((2 * n) % 4294967296)) rfl) ?_
  refine w_done ?_
  refine w_seq ?_
  refine w_region rfl ?_
  refine w_d rfl (d_move (v := v_l) rfl) ?_
  refine w_d rfl (d_move (v := .int .i64 i) rfl) ?_
  obtain ⟨c2, he⟩ := rq he
  refine w_d rfl (d_index (sz := 1) Tryd.underlying50 sz4 rfl h_l.src rfl c2) ?_
  refine w_d rfl (d_ldbool ty4 rfl h_l.src c2) ?_
  refine w_done ?_
  rcases its he with ⟨c3, he⟩ | ⟨c3, he⟩
  ·
   refine w_then rfl c3 ?_
   refine w_region rfl ?_
   refine w_d rfl (d_move (v := .int .u32 ((2 * n) % 4294967296)) rfl) ?_
   refine w_d rfl (d_add (c := (((2 * n) % 4294967296) + 1) % 4294967296) rfl rfl rfl) ?_
   refine w_d rfl (d_assign (v := .int .u32 ((((2 * n) % 4294967296) + 1) % 4294967296)) rfl) ?_
   refine w_done ?_
   refine w_inBlock ?_
   refine w_region rfl ?_
   refine w_d rfl (d_move (v := .int .i64 i) rfl) ?_
   refine w_d rfl (d_add (c := w64 (i + 1)) rfl rfl rfl) ?_
   refine w_d rfl (d_assign (v := .int .i64 (w64 (i + 1))) rfl) ?_
   refine w_done ?_
   refine w_inLoop ?_
   refine w_sl 0 (v_l) rfl ?_
   refine w_sl 2 (.int .u32 0) rfl ?_
   refine w_sl 3 (.int .u32 ((((2 * n) % 4294967296) + 1) % 4294967296)) rfl ?_
   refine w_sl 4 (.int .i64 (w64 (i + 1))) rfl ?_
   exact hh.l0 hle he h_l
  ·
   refine w_else rfl (Bool.eq_false_iff.2 c3) ?_
   refine w_skip ?_
   refine w_inBlock ?_
   refine w_region rfl ?_
   refine w_d rfl (d_move (v := .int .i64 i) rfl) ?_
   refine w_d rfl (d_add (c := w64 (i + 1)) rfl rfl rfl) ?_
   refine w_d rfl (d_assign (v := .int .i64 (w64 (i + 1))) rfl) ?_
   refine w_done ?_
   refine w_inLoop ?_
   refine w_sl 0 (v_l) rfl ?_
   refine w_sl 2 (.int .u32 0) rfl ?_
   refine w_sl 3 (.int .u32 ((2 * n) % 4294967296)) rfl ?_
   refine w_sl 4 (.int .i64 (w64 (i + 1))) rfl ?_
   exact hh.l0 hle he h_l
 ·
  refine w_else rfl (decide_eq_false c1) ?_
  refine w_exit rfl ?_
  refine w_seq ?_
  refine w_region rfl ?_
  refine w_d rfl (d_move (v := .int .u32 n) rfl) ?_
  refine w_d rfl (d_assign (v := .int .u32 n) rfl) ?_
  refine w_done ?_
  obtain rfl := Option.some.inj he
  refine w_return fn_47 rs_47 (.tmp (v := .int .u32 n) rfl .nil) ?_
  exact ⟨⟨[], rfl⟩, hle, rfl⟩
theorem radomeref23_Bits.ok : ∀ k, radomeref23_Bits.OK (radomeref23_Bits.hs k)
 | 0 => ⟨(by intros; exact nomatch (show none = some _ from by assumption))⟩
 | k + 1 => ⟨radomeref23_Bits.b0_ok (k := k) (radomeref23_Bits.ok k)⟩
set_option maxRecDepth 100000 in
set_option maxHeartbeats 2000000 in
theorem radomeref23_Bits.calls (k : Nat) {H : Hp} {L : Items} {l : List Bool} {v0_l : Value} {r : Int} (he : radomeref23_Bits.f k l = some r) (h0_l : Ro Kd.bool H v0_l l) : Ct Tryd.prog 47 ⟨[v0_l]⟩ H L (fun v H' L' => L = L' ∧ H = H' ∧ v = .int .u32 r) := by
 refine ct_outs (O := radomeref23_Bits.out r) (fun _ _ h => h) ?_
 have hle : H.le H := .refl _
 have hh := radomeref23_Bits.ok k
 unfold radomeref23_Bits.f at he
 refine ct_enter (args := [v0_l]) fn_47 rfl nt_47 rfl ?_
 refine w_seq ?_
 refine w_region rfl ?_
 refine w_d rfl (d_assign (v := .int .u32 0) rfl) ?_
 refine w_done ?_
 refine w_seq ?_
 refine w_region rfl ?_
 refine w_d rfl (d_assign (v := .int .u32 0) rfl) ?_
 refine w_done ?_
 refine w_seq ?_
 refine w_seq ?_
 refine w_region rfl ?_
 refine w_d rfl (d_assign (v := .int .i64 0) rfl) ?_
 refine w_done ?_
 refine w_block ?_
 refine w_loop ?_
 refine w_sl 0 (v0_l) rfl ?_
 refine w_sl 2 (.int .u32 0) rfl ?_
 refine w_sl 3 (.int .u32 0) rfl ?_
 refine w_sl 4 (.int .i64 0) rfl ?_
 exact hh.l0 hle he h0_l
/-! ### radome/radomelaw23.is -/
noncomputable def radomelaw23_is.C : Code := (Tryd.f30.body).getD .skip
def radomelaw23_is.out (r : Bool) (H : Hp) (v : Value) : Prop := v = .bool r
abbrev radomelaw23_is.R (H0 : Hp) (L : Items) (r : Bool) : Value → Hp → Items → Prop := fun v H' L' => (∃ p, L' = p ++ L) ∧ H0.le H' ∧ radomelaw23_is.out r H' v
noncomputable def radomelaw23_is.f (k : Nat) (a : life_Life) (b : radomeref23_Life) : Option Bool := (gd (decide (a.f_Kind = b.f_Kind)) (radomeref23_Bits.f k b.f_Seen) (0)).bind fun y8 => some ((((decide (a.f_Kind = b.f_Kind)) && (decide (a.f_Seen = y8))) && (decide (a.f_Age = (b.f_Seen.length : Int)))) && (decide (a.f_Missed = b.f_Missed)))
theorem radomelaw23_is.mono : ∀ k y0 y1, LeO (radomelaw23_is.f k y0 y1) (radomelaw23_is.f (k + 1) y0 y1) := fun k _ _ => by unfold radomelaw23_is.f; exact (LeO.bind (LeO.gd (radomeref23_Bits.mono k _)) fun _ => LeO.refl _)
set_option maxRecDepth 100000 in
set_option maxHeartbeats 2000000 in
theorem radomelaw23_is.calls (k : Nat) {H : Hp} {L : Items} {a : life_Life} {b : radomeref23_Life} {v0_b : Value} {r : Bool} (he : radomelaw23_is.f k a b = some r) (h0_b : Ro Kd.bool H v0_b b.f_Seen) : Ct Tryd.prog 30 ⟨[.agg ⟨[.int .i64 a.f_Kind, .int .u32 a.f_Seen, .int .i64 a.f_Age, .int .i64 a.f_Missed]⟩, .agg ⟨[.int .i64 b.f_Kind, v0_b, .int .i64 b.f_Missed]⟩]⟩ H L (fun v H' L' => L = L' ∧ H = H' ∧ v = .bool r) := by
 refine ct_outs (O := radomelaw23_is.out r) (fun _ _ h => h) ?_
 have hle : H.le H := .refl _
 unfold radomelaw23_is.f at he
 refine ct_enter (args := [.agg ⟨[.int .i64 a.f_Kind, .int .u32 a.f_Seen, .int .i64 a.f_Age, .int .i64 a.f_Missed]⟩, .agg ⟨[.int .i64 b.f_Kind, v0_b, .int .i64 b.f_Missed]⟩]) fn_30 rfl nt_30 rfl ?_
 refine w_seq ?_
 refine w_region rfl ?_
 refine w_a rfl (o_box (v := .agg ⟨[.int .i64 a.f_Kind, .int .u32 a.f_Seen, .int .i64 a.f_Age, .int .i64 a.f_Missed]⟩) rfl rfl) ?_
 rintro _ _ _ ⟨b1, rfl, rfl, rfl⟩
 refine w_a rfl (o_box (v := .agg ⟨[.int .i64 b.f_Kind, v0_b, .int .i64 b.f_Missed]⟩) rfl rfl) ?_
 rintro _ _ _ ⟨b2, rfl, rfl, rfl⟩
 refine w_d rfl (d_assign (v := .bool false) rfl) ?_
 refine w_done ?_
 refine w_seq ?_
 obtain ⟨y8, hy9, he⟩ := Option.bind_eq_some_iff.1 he
 refine w_drawn (p := 26) (tl := [26, 27, 28]) [[], [(0, some 5)], [], [(2, some 7)], [(1, some 6), (3, some 8)], [(4, some 9)], [(5, some 10)], [(5, some 10), (6, some 11)], [(5, some 10)], [(5, some 10), (8, some 13)], [(5, some 10), (9, some 14)], [(5, some 10), (7, some 12), (10, some 15)], [(5, some 10), (11, some 16)], [(12, some 17)], [(13, some 18)], [(13, some 18), (14, some 19)], [(13, some 18)], [(13, some 18), (16, some 21)], [(13, some 18), (17, some 22)], [(13, some 18), (15, some 20), (18, some 23)], [(13, some 18), (19, some 24)], [(20, some 25)], [(21, some 26)], [(21, some 26), (22, some 27)], [(21, some 26)], [(21, some 26), (24, some 29)]] [some 5, some 6, some 7, some 8, some 9, some 10, some 11, some 12, some 13, some 14, some 15, some 16, some 17, some 18, some 19, some 20, some 21, some 22, some 23, some 24, some 25, some 26, some 27, some 28, some 29, some 30] (fctF [.is (.pointer (some ⟨b1, 0, none⟩)), .is (.int .i64 a.f_Kind), .is (.pointer (some ⟨b2, 0, none⟩)), .is (.int .i64 b.f_Kind), .is (.bool (decide (a.f_Kind = b.f_Kind))), .is (.bool (decide (a.f_Kind = b.f_Kind))), .is (cond (decide (a.f_Kind = b.f_Kind)) (.pointer (some ⟨b1, 1, none⟩)) undef), .is (cond (decide (a.f_Kind = b.f_Kind)) (.int .u32 a.f_Seen) undef), .is (cond (decide (a.f_Kind = b.f_Kind)) (.pointer (some ⟨b2, 1, none⟩)) undef), .is (cond (decide (a.f_Kind = b.f_Kind)) v0_b undef), .is (cond (decide (a.f_Kind = b.f_Kind)) (.int .u32 y8) undef), .is (cond (decide (a.f_Kind = b.f_Kind)) (.bool (decide (a.f_Seen = y8))) undef), .is (.bool ((decide (a.f_Kind = b.f_Kind)) && (decide (a.f_Seen = y8)))), .is (.bool ((decide (a.f_Kind = b.f_Kind)) && (decide (a.f_Seen = y8)))), .is (cond ((decide (a.f_Kind = b.f_Kind)) && (decide (a.f_Seen = y8))) (.pointer (some ⟨b1, 2, none⟩)) undef), .is (cond ((decide (a.f_Kind = b.f_Kind)) && (decide (a.f_Seen = y8))) (.int .i64 a.f_Age) undef), .is (cond ((decide (a.f_Kind = b.f_Kind)) && (decide (a.f_Seen = y8))) (.pointer (some ⟨b2, 1, none⟩)) undef), .is (cond ((decide (a.f_Kind = b.f_Kind)) && (decide (a.f_Seen = y8))) v0_b undef), .is (cond ((decide (a.f_Kind = b.f_Kind)) && (decide (a.f_Seen = y8))) (.int .i64 (b.f_Seen.length : Int)) undef), .is (cond ((decide (a.f_Kind = b.f_Kind)) && (decide (a.f_Seen = y8))) (.bool (decide (a.f_Age = (b.f_Seen.length : Int)))) undef), .is (.bool (((decide (a.f_Kind = b.f_Kind)) && (decide (a.f_Seen = y8))) && (decide (a.f_Age = (b.f_Seen.length : Int))))), .is (.bool (((decide (a.f_Kind = b.f_Kind)) && (decide (a.f_Seen = y8))) && (decide (a.f_Age = (b.f_Seen.length : Int))))), .is (cond (((decide (a.f_Kind = b.f_Kind)) && (decide (a.f_Seen = y8))) && (decide (a.f_Age = (b.f_Seen.length : Int)))) (.pointer (some ⟨b1, 3, none⟩)) undef), .is (cond (((decide (a.f_Kind = b.f_Kind)) && (decide (a.f_Seen = y8))) && (decide (a.f_Age = (b.f_Seen.length : Int)))) (.int .i64 a.f_Missed) undef), .is (cond (((decide (a.f_Kind = b.f_Kind)) && (decide (a.f_Seen = y8))) && (decide (a.f_Age = (b.f_Seen.length : Int)))) (.pointer (some ⟨b2, 2, none⟩)) undef), .is (cond (((decide (a.f_Kind = b.f_Kind)) && (decide (a.f_Seen = y8))) && (decide (a.f_Age = (b.f_Seen.length : Int)))) (.int .i64 b.f_Missed) undef)]) (fun m_ => some (b2, .cells ⟨[.int .i64 b.f_Kind, v0_b, .int .i64 b.f_Missed]⟩ 60 (0, 0)) :: some (b1, .cells ⟨[.int .i64 a.f_Kind, .int .u32 a.f_Seen, .int .i64 a.f_Age, .int .i64 a.f_Missed]⟩ 52 (0, 0)) :: L) (fun _ => none) mixed (by kernel_rfl) (by kernel_rfl) rfl (fct_mono (by kernel_rfl)) ⟨(by intro H' m_ hH hm_ hu_; refine depK_nil ?_; exact s_d (m_ 0) rfl (d_fld (o' := 0) Tryd.underlying52 rfl sz3 rfl rfl rfl) (by exact rfl) rfl), (by intro H' m_ hH hm_ hu_; rintro _ rfl; refine depK_nil ?_; exact s_d (m_ 1) rfl (d_loado (v := .int .i64 a.f_Kind) ty3 rfl (.there .here) rfl rfl rfl rfl) (by exact rfl) rfl), (by intro H' m_ hH hm_ hu_; refine depK_nil ?_; exact s_d (m_ 2) rfl (d_fld (o' := 0) Tryd.underlying60 rfl sz3 rfl rfl rfl) (by exact rfl) rfl), (by intro H' m_ hH hm_ hu_; rintro _ rfl; refine depK_nil ?_; exact s_d (m_ 3) rfl (d_loado (v := .int .i64 b.f_Kind) ty3 rfl .here rfl rfl rfl rfl) (by exact rfl) rfl), (by intro H' m_ hH hm_ hu_; rintro _ rfl _ rfl; refine depK_nil ?_; exact s_d (m_ 4) rfl (d_eql rfl rfl) (by exact rfl) rfl), (by intro H' m_ hH hm_ hu_; rintro _ rfl; refine depK_nil ?_; exact s_d (m_ 5) rfl (d_move (v := .bool (decide (a.f_Kind = b.f_Kind))) rfl) (by exact rfl) rfl), (by intro H' m_ hH hm_ hu_; rintro _ rfl; refine depK_nil ?_; exact s_g (g := decide (a.f_Kind = b.f_Kind)) (m_ 6) rfl rfl rfl wn_t (fun g3 => d_fld (o' := 1) Tryd.underlying52 rfl sz37 rfl rfl rfl) rfl (by exact fun g_ => cvt g_) (by exact fun g_ => cnt g_)), (by intro H' m_ hH hm_ hu_; rintro _ rfl _ rfl; refine depK_nil ?_; exact s_g (g := decide (a.f_Kind = b.f_Kind)) (m_ 7) rfl rfl rfl wn_t (fun g4 => d_loado (v := .int .u32 a.f_Seen) ty37 (cvt g4) (.there .here) rfl rfl rfl rfl) rfl (by exact fun g_ => cvt g_) (by exact fun g_ => cnt g_)), (by intro H' m_ hH hm_ hu_; rintro _ rfl; refine depK_nil ?_; exact s_g (g := decide (a.f_Kind = b.f_Kind)) (m_ 8) rfl rfl rfl wn_t (fun g5 => d_fld (o' := 1) Tryd.underlying60 rfl sz50 rfl rfl rfl) rfl (by exact fun g_ => cvt g_) (by exact fun g_ => cnt g_)), (by intro H' m_ hH hm_ hu_; rintro _ rfl _ rfl; refine depK_nil ?_; exact s_g (g := decide (a.f_Kind = b.f_Kind)) (m_ 9) rfl rfl rfl wn_t (fun g6 => d_loado (v := v0_b) ty50 (cvt g6) .here rfl rfl rfl rfl) rfl (by exact fun g_ => cvt g_) (by exact fun g_ => cnt g_)), (by intro H' m_ hH hm_ hu_; rintro _ rfl _ rfl; refine depK_nil ?_; exact s_g (g := decide (a.f_Kind = b.f_Kind)) (m_ 10) rfl rfl rfl wn_t (fun g7 => call_d (o_call co47 (vs := [v0_b]) (acons (cvt g7) (anil)) (radomeref23_Bits.calls k (gd_t g7 hy9) (h0_b.mono hH)))) rfl (by exact fun g_ => cvt g_) (by exact fun g_ => cnt g_)), (by intro H' m_ hH hm_ hu_; rintro _ rfl _ rfl _ rfl; refine depK_nil ?_; exact s_g (g := decide (a.f_Kind = b.f_Kind)) (m_ 11) rfl rfl rfl wn_t (fun g12 => d_eql (cvt g12) (cvt g12)) rfl (by exact fun g_ => cvt g_) (by exact fun g_ => cnt g_)), (by intro H' m_ hH hm_ hu_; rintro _ rfl _ rfl; refine depK_nil ?_; exact s_d (m_ 12) rfl (d_and' (b := (decide (a.f_Kind = b.f_Kind))) (p := (decide (a.f_Seen = y8))) rfl rfl rfl) (by exact rfl) rfl), (by intro H' m_ hH hm_ hu_; rintro _ rfl; refine depK_nil ?_; exact s_d (m_ 13) rfl (d_move (v := .bool ((decide (a.f_Kind = b.f_Kind)) && (decide (a.f_Seen = y8)))) rfl) (by exact rfl) rfl), (by intro H' m_ hH hm_ hu_; rintro _ rfl; refine depK_nil ?_; exact s_g (g := (decide (a.f_Kind = b.f_Kind)) && (decide (a.f_Seen = y8))) (m_ 14) rfl rfl rfl wn_t (fun g13 => d_fld (o' := 2) Tryd.underlying52 rfl sz3 rfl rfl rfl) rfl (by exact fun g_ => cvt g_) (by exact fun g_ => cnt g_)), (by intro H' m_ hH hm_ hu_; rintro _ rfl _ rfl; refine depK_nil ?_; exact s_g (g := (decide (a.f_Kind = b.f_Kind)) && (decide (a.f_Seen = y8))) (m_ 15) rfl rfl rfl wn_t (fun g14 => d_loado (v := .int .i64 a.f_Age) ty3 (cvt g14) (.there .here) rfl rfl rfl rfl) rfl (by exact fun g_ => cvt g_) (by exact fun g_ => cnt g_)), (by intro H' m_ hH hm_ hu_; rintro _ rfl; refine depK_nil ?_; exact s_g (g := (decide (a.f_Kind = b.f_Kind)) && (decide (a.f_Seen = y8))) (m_ 16) rfl rfl rfl wn_t (fun g15 => d_fld (o' := 1) Tryd.underlying60 rfl sz50 rfl rfl rfl) rfl (by exact fun g_ => cvt g_) (by exact fun g_ => cnt g_)), (by intro H' m_ hH hm_ hu_; rintro _ rfl _ rfl; refine depK_nil ?_; exact s_g (g := (decide (a.f_Kind = b.f_Kind)) && (decide (a.f_Seen = y8))) (m_ 17) rfl rfl rfl wn_t (fun g16 => d_loado (v := v0_b) ty50 (cvt g16) .here rfl rfl rfl rfl) rfl (by exact fun g_ => cvt g_) (by exact fun g_ => cnt g_)), (by intro H' m_ hH hm_ hu_; rintro _ rfl _ rfl; refine depK_nil ?_; exact s_g (g := (decide (a.f_Kind = b.f_Kind)) && (decide (a.f_Seen = y8))) (m_ 18) rfl rfl rfl wn_t (fun g17 => d_len Tryd.underlying50 (cvt g17) (h0_b.mono hH).src) rfl (by exact fun g_ => cvt g_) (by exact fun g_ => cnt g_)), (by intro H' m_ hH hm_ hu_; rintro _ rfl _ rfl _ rfl; refine depK_nil ?_; exact s_g (g := (decide (a.f_Kind = b.f_Kind)) && (decide (a.f_Seen = y8))) (m_ 19) rfl rfl rfl wn_t (fun g18 => d_eql (cvt g18) (cvt g18)) rfl (by exact fun g_ => cvt g_) (by exact fun g_ => cnt g_)), (by intro H' m_ hH hm_ hu_; rintro _ rfl _ rfl; refine depK_nil ?_; exact s_d (m_ 20) rfl (d_and' (b := ((decide (a.f_Kind = b.f_Kind)) && (decide (a.f_Seen = y8)))) (p := (decide (a.f_Age = (b.f_Seen.length : Int)))) rfl rfl rfl) (by exact rfl) rfl), (by intro H' m_ hH hm_ hu_; rintro _ rfl; refine depK_nil ?_; exact s_d (m_ 21) rfl (d_move (v := .bool (((decide (a.f_Kind = b.f_Kind)) && (decide (a.f_Seen = y8))) && (decide (a.f_Age = (b.f_Seen.length : Int))))) rfl) (by exact rfl) rfl), (by intro H' m_ hH hm_ hu_; rintro _ rfl; refine depK_nil ?_; exact s_g (g := ((decide (a.f_Kind = b.f_Kind)) && (decide (a.f_Seen = y8))) && (decide (a.f_Age = (b.f_Seen.length : Int)))) (m_ 22) rfl rfl rfl wn_t (fun g19 => d_fld (o' := 3) Tryd.underlying52 rfl sz3 rfl rfl rfl) rfl (by exact fun g_ => cvt g_) (by exact fun g_ => cnt g_)), (by intro H' m_ hH hm_ hu_; rintro _ rfl _ rfl; refine depK_nil ?_; exact s_g (g := ((decide (a.f_Kind = b.f_Kind)) && (decide (a.f_Seen = y8))) && (decide (a.f_Age = (b.f_Seen.length : Int)))) (m_ 23) rfl rfl rfl wn_t (fun g20 => d_loado (v := .int .i64 a.f_Missed) ty3 (cvt g20) (.there .here) rfl rfl rfl rfl) rfl (by exact fun g_ => cvt g_) (by exact fun g_ => cnt g_)), (by intro H' m_ hH hm_ hu_; rintro _ rfl; refine depK_nil ?_; exact s_g (g := ((decide (a.f_Kind = b.f_Kind)) && (decide (a.f_Seen = y8))) && (decide (a.f_Age = (b.f_Seen.length : Int)))) (m_ 24) rfl rfl rfl wn_t (fun g21 => d_fld (o' := 2) Tryd.underlying60 rfl sz3 rfl rfl rfl) rfl (by exact fun g_ => cvt g_) (by exact fun g_ => cnt g_)), (by intro H' m_ hH hm_ hu_; rintro _ rfl _ rfl; refine depK_nil ?_; exact s_g (g := ((decide (a.f_Kind = b.f_Kind)) && (decide (a.f_Seen = y8))) && (decide (a.f_Age = (b.f_Seen.length : Int)))) (m_ 25) rfl rfl rfl wn_t (fun g22 => d_loado (v := .int .i64 b.f_Missed) ty3 (cvt g22) .here rfl rfl rfl rfl) rfl (by exact fun g_ => cvt g_) (by exact fun g_ => cnt g_)), trivial⟩ ?_
 intro H23 e24
 rintro _ _ rfl _ _ rfl _ _ rfl _ _ rfl _ _ rfl _ _ rfl _ _ rfl _ _ rfl _ _ rfl _ _ rfl _ _ rfl _ _ rfl _ _ rfl _ _ rfl _ _ rfl _ _ rfl _ _ rfl _ _ rfl _ _ rfl _ _ rfl _ _ rfl _ _ rfl _ _ rfl _ _ rfl _ _ rfl _ _ rfl
 refine w_g (g := ((decide (a.f_Kind = b.f_Kind)) && (decide (a.f_Seen = y8))) && (decide (a.f_Age = (b.f_Seen.length : Int)))) rfl rfl rfl wn_t (fun g25 => d_eql (cvt g25) (cvt g25)) ?_
 refine w_d rfl (d_and' (b := (((decide (a.f_Kind = b.f_Kind)) && (decide (a.f_Seen = y8))) && (decide (a.f_Age = (b.f_Seen.length : Int))))) (p := (decide (a.f_Missed = b.f_Missed))) rfl rfl rfl) ?_
 refine w_d rfl (d_assign (v := .bool ((((decide (a.f_Kind = b.f_Kind)) && (decide (a.f_Seen = y8))) && (decide (a.f_Age = (b.f_Seen.length : Int)))) && (decide (a.f_Missed = b.f_Missed)))) rfl) ?_
 refine w_done ?_
 obtain rfl := Option.some.inj he
 refine w_return fn_30 rs_30 (.tmp (v := .bool ((((decide (a.f_Kind = b.f_Kind)) && (decide (a.f_Seen = y8))) && (decide (a.f_Age = (b.f_Seen.length : Int)))) && (decide (a.f_Missed = b.f_Missed)))) rfl .nil) ?_
 exact ⟨⟨[_, _], rfl⟩, hle.trans e24, rfl⟩
/-! ### radome/radomeref23.Gone -/
noncomputable def radomeref23_Gone.C : Code := (Tryd.f32.body).getD .skip
def radomeref23_Gone.out (r : Bool) (H : Hp) (v : Value) : Prop := v = .bool r
abbrev radomeref23_Gone.R (H0 : Hp) (L : Items) (r : Bool) : Value → Hp → Items → Prop := fun v H' L' => (∃ p, L' = p ++ L) ∧ H0.le H' ∧ radomeref23_Gone.out r H' v
noncomputable def radomeref23_Gone.f (k : Nat) (l : radomeref23_Life) : Option Bool := some ((decide (l.f_Kind = 3)) || (decide (l.f_Kind = 4)))
theorem radomeref23_Gone.mono : ∀ k y0, LeO (radomeref23_Gone.f k y0) (radomeref23_Gone.f (k + 1) y0) := fun k _ => by unfold radomeref23_Gone.f; exact (LeO.refl _)
set_option maxRecDepth 100000 in
set_option maxHeartbeats 2000000 in
theorem radomeref23_Gone.calls (k : Nat) {H : Hp} {L : Items} {l : radomeref23_Life} {v0_l : Value} {r : Bool} (he : radomeref23_Gone.f k l = some r) (h0_l : Ro Kd.bool H v0_l l.f_Seen) : Ct Tryd.prog 32 ⟨[.agg ⟨[.int .i64 l.f_Kind, v0_l, .int .i64 l.f_Missed]⟩]⟩ H L (fun v H' L' => L = L' ∧ H = H' ∧ v = .bool r) := by
 refine ct_outs (O := radomeref23_Gone.out r) (fun _ _ h => h) ?_
 have hle : H.le H := .refl _
 unfold radomeref23_Gone.f at he
 refine ct_enter (args := [.agg ⟨[.int .i64 l.f_Kind, v0_l, .int .i64 l.f_Missed]⟩]) fn_32 rfl nt_32 rfl ?_
 refine w_seq ?_
 refine w_region rfl ?_
 refine w_a rfl (o_box (v := .agg ⟨[.int .i64 l.f_Kind, v0_l, .int .i64 l.f_Missed]⟩) rfl rfl) ?_
 rintro _ _ _ ⟨b1, rfl, rfl, rfl⟩
 refine w_d rfl (d_assign (v := .bool false) rfl) ?_
 refine w_done ?_
 refine w_seq ?_
 refine w_region rfl ?_
 refine w_d rfl (d_fld (o' := 0) Tryd.underlying60 rfl sz3 rfl rfl rfl) ?_
 refine w_d rfl (d_loado (v := .int .i64 l.f_Kind) ty3 rfl .here rfl rfl rfl rfl) ?_
 refine w_d rfl (d_eql rfl rfl) ?_
 refine w_d rfl (d_move (v := .bool (decide (l.f_Kind = 3))) rfl) ?_
 refine w_g (g := !(decide (l.f_Kind = 3))) rfl rfl rfl wn_f (fun g2 => d_fld (o' := 0) Tryd.underlying60 rfl sz3 rfl rfl rfl) ?_
 refine w_g (g := !(decide (l.f_Kind = 3))) rfl rfl rfl wn_f (fun g3 => d_loado (v := .int .i64 l.f_Kind) ty3 (cvt g3) .here rfl rfl rfl rfl) ?_
 refine w_g (g := !(decide (l.f_Kind = 3))) rfl rfl rfl wn_f (fun g4 => d_eql (cvt g4) rfl) ?_
 refine w_d rfl (d_or' (b := (decide (l.f_Kind = 3))) (p := (decide (l.f_Kind = 4))) rfl rfl rfl) ?_
 refine w_d rfl (d_assign (v := .bool ((decide (l.f_Kind = 3)) || (decide (l.f_Kind = 4)))) rfl) ?_
 refine w_done ?_
 obtain rfl := Option.some.inj he
 refine w_return fn_32 rs_32 (.tmp (v := .bool ((decide (l.f_Kind = 3)) || (decide (l.f_Kind = 4)))) rfl .nil) ?_
 exact ⟨⟨[_], rfl⟩, hle, rfl⟩
/-! ### radome/radomeref23.count -/
noncomputable def radomeref23_count.C : Code := (Tryd.f48.body).getD .skip
def radomeref23_count.out (r : Int) (H : Hp) (v : Value) : Prop := v = .int .i64 r
abbrev radomeref23_count.R (H0 : Hp) (L : Items) (r : Int) : Value → Hp → Items → Prop := fun v H' L' => (∃ p, L' = p ++ L) ∧ H0.le H' ∧ radomeref23_count.out r H' v
structure radomeref23_count.Hs where
 l0 : (List Bool) → Int → Int → Option Int
noncomputable def radomeref23_count.b0 (k : Nat) (h : radomeref23_count.Hs)  (l : List Bool) (n : Int) (i : Int) : Option Int := if i < (l.length : Int) then (if 0 ≤ i ∧ i < (l.length : Int) then (if (rd l i) = true then (h.l0 l (w64 (n + 1)) (w64 (i + 1))) else (h.l0 l n (w64 (i + 1)))) else none) else (some (n))
noncomputable def radomeref23_count.hs : Nat → radomeref23_count.Hs
 | 0 => ⟨fun _ _ _ => none⟩
 | k + 1 => ⟨fun x0 x1 x2 => radomeref23_count.b0 k (radomeref23_count.hs k) x0 x1 x2⟩
noncomputable def radomeref23_count.f (k : Nat) (l : List Bool) : Option Int := (fun h : radomeref23_count.Hs => h.l0 l 0 0) (radomeref23_count.hs k)
structure radomeref23_count.LE (h h' : radomeref23_count.Hs) : Prop where
 l0 : ∀ y0 y1 y2, LeO (h.l0 y0 y1 y2) (h'.l0 y0 y1 y2)
theorem radomeref23_count.b0_mono {k : Nat} {h h' : radomeref23_count.Hs} (hl : radomeref23_count.LE h h') : ∀ y0 y1 y2, LeO (radomeref23_count.b0 k h y0 y1 y2) (radomeref23_count.b0 (k + 1) h' y0 y1 y2) := fun _ _ _ => (LeO.ite (LeO.ite (LeO.ite (hl.l0 _ _ _) (hl.l0 _ _ _)) (LeO.refl _)) (LeO.refl _))
theorem radomeref23_count.hs_mono : ∀ k, radomeref23_count.LE (radomeref23_count.hs k) (radomeref23_count.hs (k + 1))
 | 0 => ⟨fun _ _ _ => LeO.none _⟩
 | k + 1 => ⟨radomeref23_count.b0_mono (k := k) (radomeref23_count.hs_mono k)⟩
theorem radomeref23_count.mono : ∀ k y0, LeO (radomeref23_count.f k y0) (radomeref23_count.f (k + 1) y0) := fun k _ => have hl := radomeref23_count.hs_mono k; by unfold radomeref23_count.f; exact (hl.l0 _ _ _)
noncomputable def radomeref23_count.Kl0 : List Item := .code (lopB (blkB (seqR (seqL (seqR (seqR radomeref23_count.C)))))) :: .inLoop (lopB (blkB (seqR (seqL (seqR (seqR radomeref23_count.C)))))) :: .inBlock 0 :: .code (seqR (seqR (seqR radomeref23_count.C))) :: []
structure radomeref23_count.OK (h : radomeref23_count.Hs) : Prop where
 l0 : ∀ {H0 H : Hp} {L : Items} {r : Int} {jk_ : Nat → Value} {l : List Bool} {n : Int} {i : Int} {v_l : Value} (_ : H0.le H) (_he : h.l0 l n i = some r) (_h_l : Ro Kd.bool H v_l l), Wp Tryd.prog 48 18 radomeref23_count.Kl0 (upd (upd (upd (upd jk_ 0 (v_l)) 2 (.int .i64 0)) 3 (.int .i64 n)) 4 (.int .i64 i)) H (L) (radomeref23_count.R H0 L r)
set_option maxRecDepth 100000 in
set_option maxHeartbeats 2000000 in
theorem radomeref23_count.b0_ok {k : Nat} {h : radomeref23_count.Hs} (hh : radomeref23_count.OK h) {H0 H : Hp} {L : Items} {r : Int} {jk_ : Nat → Value} {l : List Bool} {n : Int} {i : Int} {v_l : Value} (hle : H0.le H) (he : radomeref23_count.b0 k h l n i = some r) (h_l : Ro Kd.bool H v_l l) : Wp Tryd.prog 48 18 radomeref23_count.Kl0 (upd (upd (upd (upd jk_ 0 (v_l)) 2 (.int .i64 0)) 3 (.int .i64 n)) 4 (.int .i64 i)) H (L) (radomeref23_count.R H0 L r) := by
 unfold radomeref23_count.b0 at he
 unfold radomeref23_count.Kl0
 refine w_seq ?_
 refine w_seq ?_
 refine w_region rfl ?_
 refine w_d rfl (d_move (v := .int .i64 i) rfl) ?_
 refine w_d rfl (d_move (v := v_l) rfl) ?_
 refine w_d rfl (d_len Tryd.underlying50 rfl h_l.src) ?_
 refine w_d rfl (d_lss rfl rfl) ?_
 refine w_done ?_
 rcases its he with ⟨c1, he⟩ | ⟨c1, he⟩
 ·
  refine w_then rfl (decide_eq_true c1) ?_
  refine w_skip ?_
  refine w_seq ?_
  refine w_block ?_
  refine w_seq ?_
  refine w_region rfl ?_
  refine w_d rfl (d_move (v := v_l) rfl) ?_
  refine w_d rfl (d_move (v := .int .i64 i) rfl) ?_
  obtain ⟨c2, he⟩ := rq he
  refine w_d rfl (d_index (sz := 1) Tryd.underlying50 sz4 rfl h_l.src rfl c2) ?_
  refine w_d rfl (d_ldbool ty4 rfl h_l.src c2) ?_
  refine w_done ?_
  rcases its he with ⟨c3, he⟩ | ⟨c3, he⟩
  ·
   refine w_then rfl c3 ?_
   refine w_region rfl ?_
   refine w_d rfl (d_move (v := .int .i64 n) rfl) ?_
   refine w_d rfl (d_add (c := w64 (n + 1)) rfl rfl rfl) ?_
   refine w_d rfl (d_assign (v := .int .i64 (w64 (n + 1))) rfl) ?_
   refine w_done ?_
   refine w_inBlock ?_
   refine w_region rfl ?_
   refine w_d rfl (d_move (v := .int .i64 i) rfl) ?_
   refine w_d rfl (d_add (c := w64 (i + 1)) rfl rfl rfl) ?_
   refine w_d rfl (d_assign (v := .int .i64 (w64 (i + 1))) rfl) ?_
   refine w_done ?_
   refine w_inLoop ?_
   refine w_sl 0 (v_l) rfl ?_
   refine w_sl 2 (.int .i64 0) rfl ?_
   refine w_sl 3 (.int .i64 (w64 (n + 1))) rfl ?_
   refine w_sl 4 (.int .i64 (w64 (i + 1))) rfl ?_
   exact hh.l0 hle he h_l
  ·
   refine w_else rfl (Bool.eq_false_iff.2 c3) ?_
   refine w_skip ?_
   refine w_inBlock ?_
   refine w_region rfl ?_
   refine w_d rfl (d_move (v := .int .i64 i) rfl) ?_
   refine w_d rfl (d_add (c := w64 (i + 1)) rfl rfl rfl) ?_
   refine w_d rfl (d_assign (v := .int .i64 (w64 (i + 1))) rfl) ?_
   refine w_done ?_
   refine w_inLoop ?_
   refine w_sl 0 (v_l) rfl ?_
   refine w_sl 2 (.int .i64 0) rfl ?_
   refine w_sl 3 (.int .i64 n) rfl ?_
   refine w_sl 4 (.int .i64 (w64 (i + 1))) rfl ?_
   exact hh.l0 hle he h_l
 ·
  refine w_else rfl (decide_eq_false c1) ?_
  refine w_exit rfl ?_
  refine w_seq ?_
  refine w_region rfl ?_
  refine w_d rfl (d_move (v := .int .i64 n) rfl) ?_
  refine w_d rfl (d_assign (v := .int .i64 n) rfl) ?_
  refine w_done ?_
  obtain rfl := Option.some.inj he
  refine w_return fn_48 rs_48 (.tmp (v := .int .i64 n) rfl .nil) ?_
  exact ⟨⟨[], rfl⟩, hle, rfl⟩
theorem radomeref23_count.ok : ∀ k, radomeref23_count.OK (radomeref23_count.hs k)
 | 0 => ⟨(by intros; exact nomatch (show none = some _ from by assumption))⟩
 | k + 1 => ⟨radomeref23_count.b0_ok (k := k) (radomeref23_count.ok k)⟩
set_option maxRecDepth 100000 in
set_option maxHeartbeats 2000000 in
theorem radomeref23_count.calls (k : Nat) {H : Hp} {L : Items} {l : List Bool} {v0_l : Value} {r : Int} (he : radomeref23_count.f k l = some r) (h0_l : Ro Kd.bool H v0_l l) : Ct Tryd.prog 48 ⟨[v0_l]⟩ H L (fun v H' L' => L = L' ∧ H = H' ∧ v = .int .i64 r) := by
 refine ct_outs (O := radomeref23_count.out r) (fun _ _ h => h) ?_
 have hle : H.le H := .refl _
 have hh := radomeref23_count.ok k
 unfold radomeref23_count.f at he
 refine ct_enter (args := [v0_l]) fn_48 rfl nt_48 rfl ?_
 refine w_seq ?_
 refine w_region rfl ?_
 refine w_d rfl (d_assign (v := .int .i64 0) rfl) ?_
 refine w_done ?_
 refine w_seq ?_
 refine w_region rfl ?_
 refine w_d rfl (d_assign (v := .int .i64 0) rfl) ?_
 refine w_done ?_
 refine w_seq ?_
 refine w_seq ?_
 refine w_region rfl ?_
 refine w_d rfl (d_assign (v := .int .i64 0) rfl) ?_
 refine w_done ?_
 refine w_block ?_
 refine w_loop ?_
 refine w_sl 0 (v0_l) rfl ?_
 refine w_sl 2 (.int .i64 0) rfl ?_
 refine w_sl 3 (.int .i64 0) rfl ?_
 refine w_sl 4 (.int .i64 0) rfl ?_
 exact hh.l0 hle he h0_l
/-! ### radome/radomeref23.Next -/
noncomputable def radomeref23_Next.C : Code := (Tryd.f33.body).getD .skip
def radomeref23_Next.out (r : radomeref23_Life) (H : Hp) (v : Value) : Prop := ∃ v0, v = .agg ⟨[.int .i64 r.f_Kind, v0, .int .i64 r.f_Missed]⟩ ∧ Ro Kd.bool H v0 r.f_Seen
theorem radomeref23_Next.out_mono (r : radomeref23_Life) {H H' : Hp} {v : Value} (hle : H.le H') (h : radomeref23_Next.out r H v) : radomeref23_Next.out r H' v := by
 obtain ⟨v0, rfl, h0⟩ := h; exact ⟨v0, rfl, h0.mono hle⟩
abbrev radomeref23_Next.R (H0 : Hp) (L : Items) (r : radomeref23_Life) : Value → Hp → Items → Prop := fun v H' L' => (∃ p, L' = p ++ L) ∧ H0.le H' ∧ radomeref23_Next.out r H' v
noncomputable def radomeref23_Next.j4 (k : Nat)  (hit : Bool) (r_0 : Int) (r_1 : Int) (r_2 : Int) (out_0 : Int) (out_1 : List Bool) (out_2 : Int) : Option radomeref23_Life := some ((⟨out_0, out_1, out_2⟩ : radomeref23_Life))
noncomputable def radomeref23_Next.j3 (k : Nat)  (hit : Bool) (r_0 : Int) (r_1 : Int) (r_2 : Int) (l_0 : Int) (l_1 : List Bool) (l_2 : Int) (seen : List Bool) (out_0 : Int) (out_1 : List Bool) (out_2 : Int) : Option radomeref23_Life := (gd (decide (l_0 = 0)) (radomeref23_count.f k seen) (0)).bind fun y30 => if ((decide (l_0 = 0)) && (decide (y30 < r_0))) = true then (if ((decide ((seen.length : Int) = r_1)) || (decide (out_2 = r_2))) = true then (radomeref23_Next.j4 k hit r_0 r_1 r_2 3 out_1 out_2) else (radomeref23_Next.j4 k hit r_0 r_1 r_2 out_0 out_1 out_2)) else (if hit = true then (some ((⟨1, out_1, out_2⟩ : radomeref23_Life))) else (if out_2 = r_2 then (some ((⟨4, out_1, out_2⟩ : radomeref23_Life))) else (some ((⟨2, out_1, out_2⟩ : radomeref23_Life)))))
noncomputable def radomeref23_Next.j2 (k : Nat)  (hit : Bool) (r_0 : Int) (r_1 : Int) (r_2 : Int) (l_0 : Int) (l_1 : List Bool) (l_2 : Int) (seen : List Bool) (out_0 : Int) (out_1 : List Bool) (out_2 : Int) : Option radomeref23_Life := if r_2 < out_2 then (radomeref23_Next.j3 k hit r_0 r_1 r_2 l_0 l_1 l_2 seen out_0 out_1 r_2) else (radomeref23_Next.j3 k hit r_0 r_1 r_2 l_0 l_1 l_2 seen out_0 out_1 out_2)
noncomputable def radomeref23_Next.j1 (k : Nat)  (hit : Bool) (r_0 : Int) (r_1 : Int) (r_2 : Int) (l_0 : Int) (l_1 : List Bool) (l_2 : Int) (seen : List Bool) : Option radomeref23_Life := if hit = true then (radomeref23_Next.j2 k hit r_0 r_1 r_2 l_0 l_1 l_2 seen l_0 seen 0) else (radomeref23_Next.j2 k hit r_0 r_1 r_2 l_0 l_1 l_2 seen l_0 seen (w64 (l_2 + 1)))
noncomputable def radomeref23_Next.f (k : Nat) (r_ : radomeref23_Rule) (l : radomeref23_Life) (hit : Bool) : Option radomeref23_Life := if 0 + l.f_Seen.length ≤ 140737488355200 then (if l.f_Seen.length + 1 ≤ 140737488355200 then (if r_.f_Window < ((l.f_Seen ++ [hit]).length : Int) then (if (0 : Int) ≤ 1 ∧ (1 : Int) ≤ ((l.f_Seen ++ [hit]).length : Int) ∧ ((l.f_Seen ++ [hit]).length : Int) ≤ ((l.f_Seen ++ [hit]).length : Int) then (radomeref23_Next.j1 k hit r_.f_Hits r_.f_Window r_.f_Misses l.f_Kind l.f_Seen l.f_Missed (cut (l.f_Seen ++ [hit]) 1 ((l.f_Seen ++ [hit]).length : Int))) else none) else (radomeref23_Next.j1 k hit r_.f_Hits r_.f_Window r_.f_Misses l.f_Kind l.f_Seen l.f_Missed (l.f_Seen ++ [hit]))) else none) else none
theorem radomeref23_Next.j4_mono {k : Nat} : ∀ y0 y1 y2 y3 y4 y5 y6, LeO (radomeref23_Next.j4 k y0 y1 y2 y3 y4 y5 y6) (radomeref23_Next.j4 (k + 1) y0 y1 y2 y3 y4 y5 y6) := fun _ _ _ _ _ _ _ => (LeO.refl _)
theorem radomeref23_Next.j3_mono {k : Nat} : ∀ y0 y1 y2 y3 y4 y5 y6 y7 y8 y9 y10, LeO (radomeref23_Next.j3 k y0 y1 y2 y3 y4 y5 y6 y7 y8 y9 y10) (radomeref23_Next.j3 (k + 1) y0 y1 y2 y3 y4 y5 y6 y7 y8 y9 y10) := fun _ _ _ _ _ _ _ _ _ _ _ => (LeO.bind (LeO.gd (radomeref23_count.mono k _)) fun _ => LeO.ite (LeO.ite (radomeref23_Next.j4_mono (k := k)  _ _ _ _ _ _ _) (radomeref23_Next.j4_mono (k := k)  _ _ _ _ _ _ _)) (LeO.ite (LeO.refl _) (LeO.ite (LeO.refl _) (LeO.refl _))))
theorem radomeref23_Next.j2_mono {k : Nat} : ∀ y0 y1 y2 y3 y4 y5 y6 y7 y8 y9 y10, LeO (radomeref23_Next.j2 k y0 y1 y2 y3 y4 y5 y6 y7 y8 y9 y10) (radomeref23_Next.j2 (k + 1) y0 y1 y2 y3 y4 y5 y6 y7 y8 y9 y10) := fun _ _ _ _ _ _ _ _ _ _ _ => (LeO.ite (radomeref23_Next.j3_mono (k := k)  _ _ _ _ _ _ _ _ _ _ _) (radomeref23_Next.j3_mono (k := k)  _ _ _ _ _ _ _ _ _ _ _))
theorem radomeref23_Next.j1_mono {k : Nat} : ∀ y0 y1 y2 y3 y4 y5 y6 y7, LeO (radomeref23_Next.j1 k y0 y1 y2 y3 y4 y5 y6 y7) (radomeref23_Next.j1 (k + 1) y0 y1 y2 y3 y4 y5 y6 y7) := fun _ _ _ _ _ _ _ _ => (LeO.ite (radomeref23_Next.j2_mono (k := k)  _ _ _ _ _ _ _ _ _ _ _) (radomeref23_Next.j2_mono (k := k)  _ _ _ _ _ _ _ _ _ _ _))
theorem radomeref23_Next.mono : ∀ k y0 y1 y2, LeO (radomeref23_Next.f k y0 y1 y2) (radomeref23_Next.f (k + 1) y0 y1 y2) := fun k _ _ _ => by unfold radomeref23_Next.f; exact (LeO.ite (LeO.ite (LeO.ite (LeO.ite (radomeref23_Next.j1_mono (k := k)  _ _ _ _ _ _ _ _) (LeO.refl _)) (radomeref23_Next.j1_mono (k := k)  _ _ _ _ _ _ _ _)) (LeO.refl _)) (LeO.refl _))
noncomputable def radomeref23_Next.Kj1 : List Item := .code (seqR (seqR (seqR (seqR radomeref23_Next.C)))) :: []
noncomputable def radomeref23_Next.Kj2 : List Item := .code (seqR (seqR (seqR (seqR (seqR (seqR radomeref23_Next.C)))))) :: []
noncomputable def radomeref23_Next.Kj3 : List Item := .code (seqR (seqR (seqR (seqR (seqR (seqR (seqR radomeref23_Next.C))))))) :: []
noncomputable def radomeref23_Next.Kj4 : List Item := .code (seqR (thnC (seqR (seqL (seqR (seqR (seqR (seqR (seqR (seqR (seqR radomeref23_Next.C))))))))))) :: .code (seqR (seqR (seqR (seqR (seqR (seqR (seqR (seqR radomeref23_Next.C)))))))) :: []
set_option maxRecDepth 100000 in
set_option maxHeartbeats 2000000 in
theorem radomeref23_Next.j4_ok {k : Nat} {H0 H : Hp} {L : Items} {r : radomeref23_Life} {jk_ : Nat → Value} {hit : Bool} {r_0 : Int} {r_1 : Int} {r_2 : Int} {out_0 : Int} {out_1 : List Bool} {out_2 : Int} {v_out_1 : Value} {b_r_ : Nat} {b_t6 : Nat} {b_out : Nat} (hle : H0.le H) (he : radomeref23_Next.j4 k hit r_0 r_1 r_2 out_0 out_1 out_2 = some r) (h_out_1 : Ro Kd.bool H v_out_1 out_1) : Wp Tryd.prog 33 75 radomeref23_Next.Kj4 (upd (upd (upd (upd jk_ 2 (.bool hit)) 3 (.pointer (some ⟨b_r_, 0, none⟩))) 6 (.pointer (some ⟨b_t6, 0, none⟩))) 8 (.pointer (some ⟨b_out, 0, none⟩))) H (some (b_out, .cells ⟨[.int .i64 out_0, v_out_1, .int .i64 out_2]⟩ 60 (0, 0)) :: some (b_t6, .cells ⟨[.int .i64 0, .slice none 0 0, .int .i64 0]⟩ 60 (0, 0)) :: some (b_r_, .cells ⟨[.int .i64 r_0, .int .i64 r_1, .int .i64 r_2]⟩ 49 (0, 0)) :: L) (radomeref23_Next.R H0 L r) := by
 unfold radomeref23_Next.j4 at he
 unfold radomeref23_Next.Kj4
 refine w_seq ?_
 refine w_region rfl ?_
 refine w_d rfl (d_loado (v := .agg ⟨[.int .i64 out_0, v_out_1, .int .i64 out_2]⟩) ty60 rfl .here rfl rfl rfl rfl) ?_
 refine w_a0 rfl (o_store (v := .agg ⟨[.int .i64 out_0, v_out_1, .int .i64 out_2]⟩) sz60 rfl rfl rfl rfl (one_cons rfl (one_cons (h_out_1.one) (one_cons rfl one_nil))) (.there .here) (.here (.here (.here .done)))) ?_
 rintro _ _ _ ⟨rfl, rfl, rfl⟩
 refine w_done ?_
 obtain rfl := Option.some.inj he
 refine w_return fn_33 rs_33 (.box (v := .agg ⟨[.int .i64 out_0, v_out_1, .int .i64 out_2]⟩) rfl ty60 rfl rfl (.there .here) rfl .nil) ?_
 exact ⟨⟨[_, _, _], rfl⟩, hle, ⟨v_out_1, rfl, h_out_1⟩⟩
set_option maxRecDepth 100000 in
set_option maxHeartbeats 2000000 in
theorem radomeref23_Next.j3_ok {k : Nat} {H0 H : Hp} {L : Items} {r : radomeref23_Life} {jk_ : Nat → Value} {hit : Bool} {r_0 : Int} {r_1 : Int} {r_2 : Int} {l_0 : Int} {l_1 : List Bool} {l_2 : Int} {seen : List Bool} {out_0 : Int} {out_1 : List Bool} {out_2 : Int} {v_l_1 : Value} {v_seen : Value} {v_out_1 : Value} {b_r_ : Nat} {b_l : Nat} {b_t6 : Nat} {b_out : Nat} (hle : H0.le H) (he : radomeref23_Next.j3 k hit r_0 r_1 r_2 l_0 l_1 l_2 seen out_0 out_1 out_2 = some r) (h_l_1 : Ro Kd.bool H v_l_1 l_1) (h_seen : Ro Kd.bool H v_seen seen) (h_out_1 : Ro Kd.bool H v_out_1 out_1) : Wp Tryd.prog 33 75 radomeref23_Next.Kj3 (upd (upd (upd (upd (upd (upd jk_ 2 (.bool hit)) 3 (.pointer (some ⟨b_r_, 0, none⟩))) 4 (.pointer (some ⟨b_l, 0, none⟩))) 6 (.pointer (some ⟨b_t6, 0, none⟩))) 7 (v_seen)) 8 (.pointer (some ⟨b_out, 0, none⟩))) H (some (b_out, .cells ⟨[.int .i64 out_0, v_out_1, .int .i64 out_2]⟩ 60 (0, 0)) :: some (b_t6, .cells ⟨[.int .i64 0, .slice none 0 0, .int .i64 0]⟩ 60 (0, 0)) :: some (b_l, .cells ⟨[.int .i64 l_0, v_l_1, .int .i64 l_2]⟩ 60 (0, 0)) :: some (b_r_, .cells ⟨[.int .i64 r_0, .int .i64 r_1, .int .i64 r_2]⟩ 49 (0, 0)) :: L) (radomeref23_Next.R H0 L r) := by
 unfold radomeref23_Next.j3 at he
 unfold radomeref23_Next.Kj3
 refine w_seq ?_
 refine w_seq ?_
 obtain ⟨y30, hy31, he⟩ := Option.bind_eq_some_iff.1 he
 refine w_drawn (p := 8) (tl := [8, 9]) [[], [(0, some 40)], [(1, some 41)], [(2, some 42)], [(3, some 43)], [(3, some 43), (4, some 44)], [(3, some 43)], [(3, some 43), (6, some 46)]] [some 40, some 41, some 42, some 43, some 44, some 45, some 46, some 47] (fctF [.is (.pointer (some ⟨b_l, 0, none⟩)), .is (.int .i64 l_0), .is (.bool (decide (l_0 = 0))), .is (.bool (decide (l_0 = 0))), .is (cond (decide (l_0 = 0)) v_seen undef), .is (cond (decide (l_0 = 0)) (.int .i64 y30) undef), .is (cond (decide (l_0 = 0)) (.pointer (some ⟨b_r_, 0, none⟩)) undef), .is (cond (decide (l_0 = 0)) (.int .i64 r_0) undef)]) (fun m_ => some (b_out, .cells ⟨[.int .i64 out_0, v_out_1, .int .i64 out_2]⟩ 60 (0, 0)) :: some (b_t6, .cells ⟨[.int .i64 0, .slice none 0 0, .int .i64 0]⟩ 60 (0, 0)) :: some (b_l, .cells ⟨[.int .i64 l_0, v_l_1, .int .i64 l_2]⟩ 60 (0, 0)) :: some (b_r_, .cells ⟨[.int .i64 r_0, .int .i64 r_1, .int .i64 r_2]⟩ 49 (0, 0)) :: L) (fun _ => none) mixed (by kernel_rfl) (by kernel_rfl) rfl (fct_mono (by kernel_rfl)) ⟨(by intro H' m_ hH hm_ hu_; refine depK_nil ?_; exact s_d (m_ 0) rfl (d_fld (o' := 0) Tryd.underlying60 rfl sz3 rfl rfl rfl) (by exact rfl) rfl), (by intro H' m_ hH hm_ hu_; rintro _ rfl; refine depK_nil ?_; exact s_d (m_ 1) rfl (d_loado (v := .int .i64 l_0) ty3 rfl (.there (.there .here)) rfl rfl rfl rfl) (by exact rfl) rfl), (by intro H' m_ hH hm_ hu_; rintro _ rfl; refine depK_nil ?_; exact s_d (m_ 2) rfl (d_eql rfl rfl) (by exact rfl) rfl), (by intro H' m_ hH hm_ hu_; rintro _ rfl; refine depK_nil ?_; exact s_d (m_ 3) rfl (d_move (v := .bool (decide (l_0 = 0))) rfl) (by exact rfl) rfl), (by intro H' m_ hH hm_ hu_; rintro _ rfl; refine depK_nil ?_; exact s_g (g := decide (l_0 = 0)) (m_ 4) rfl rfl rfl wn_t (fun g28 => d_move (v := v_seen) rfl) rfl (by exact fun g_ => cvt g_) (by exact fun g_ => cnt g_)), (by intro H' m_ hH hm_ hu_; rintro _ rfl _ rfl; refine depK_nil ?_; exact s_g (g := decide (l_0 = 0)) (m_ 5) rfl rfl rfl wn_t (fun g29 => call_d (o_call co48 (vs := [v_seen]) (acons (cvt g29) (anil)) (radomeref23_count.calls k (gd_t g29 hy31) (h_seen.mono hH)))) rfl (by exact fun g_ => cvt g_) (by exact fun g_ => cnt g_)), (by intro H' m_ hH hm_ hu_; rintro _ rfl; refine depK_nil ?_; exact s_g (g := decide (l_0 = 0)) (m_ 6) rfl rfl rfl wn_t (fun g34 => d_fld (o' := 0) Tryd.underlying49 rfl sz3 rfl rfl rfl) rfl (by exact fun g_ => cvt g_) (by exact fun g_ => cnt g_)), (by intro H' m_ hH hm_ hu_; rintro _ rfl _ rfl; refine depK_nil ?_; exact s_g (g := decide (l_0 = 0)) (m_ 7) rfl rfl rfl wn_t (fun g35 => d_loado (v := .int .i64 r_0) ty3 (cvt g35) (.there (.there (.there .here))) rfl rfl rfl rfl) rfl (by exact fun g_ => cvt g_) (by exact fun g_ => cnt g_)), trivial⟩ ?_
 intro H36 e37
 rintro _ _ rfl _ _ rfl _ _ rfl _ _ rfl _ _ rfl _ _ rfl _ _ rfl _ _ rfl
 refine w_g (g := decide (l_0 = 0)) rfl rfl rfl wn_t (fun g38 => d_lss (cvt g38) (cvt g38)) ?_
 refine w_d rfl (d_and' (b := (decide (l_0 = 0))) (p := (decide (y30 < r_0))) rfl rfl rfl) ?_
 refine w_done ?_
 rcases its he with ⟨c39, he⟩ | ⟨c39, he⟩
 ·
  refine w_then rfl c39 ?_
  refine w_seq ?_
  refine w_seq ?_
  refine w_region rfl ?_
  refine w_d rfl (d_move (v := v_seen) rfl) ?_
  refine w_d rfl (d_len Tryd.underlying50 rfl (h_seen.mono e37).src) ?_
  refine w_d rfl (d_fld (o' := 1) Tryd.underlying49 rfl sz3 rfl rfl rfl) ?_
  refine w_d rfl (d_loado (v := .int .i64 r_1) ty3 rfl (.there (.there (.there .here))) rfl rfl rfl rfl) ?_
  refine w_d rfl (d_eql rfl rfl) ?_
  refine w_d rfl (d_move (v := .bool (decide ((seen.length : Int) = r_1))) rfl) ?_
  refine w_g (g := !(decide ((seen.length : Int) = r_1))) rfl rfl rfl wn_f (fun g40 => d_fld (o' := 2) Tryd.underlying60 rfl sz3 rfl rfl rfl) ?_
  refine w_g (g := !(decide ((seen.length : Int) = r_1))) rfl rfl rfl wn_f (fun g41 => d_loado (v := .int .i64 out_2) ty3 (cvt g41) .here rfl rfl rfl rfl) ?_
  refine w_g (g := !(decide ((seen.length : Int) = r_1))) rfl rfl rfl wn_f (fun g42 => d_fld (o' := 2) Tryd.underlying49 rfl sz3 rfl rfl rfl) ?_
  refine w_g (g := !(decide ((seen.length : Int) = r_1))) rfl rfl rfl wn_f (fun g43 => d_loado (v := .int .i64 r_2) ty3 (cvt g43) (.there (.there (.there .here))) rfl rfl rfl rfl) ?_
  refine w_g (g := !(decide ((seen.length : Int) = r_1))) rfl rfl rfl wn_f (fun g44 => d_eql (cvt g44) (cvt g44)) ?_
  refine w_d rfl (d_or' (b := (decide ((seen.length : Int) = r_1))) (p := (decide (out_2 = r_2))) rfl rfl rfl) ?_
  refine w_done ?_
  rcases its he with ⟨c45, he⟩ | ⟨c45, he⟩
  ·
   refine w_then rfl c45 ?_
   refine w_region rfl ?_
   refine w_d rfl (d_fld (o' := 0) Tryd.underlying60 rfl sz3 rfl rfl rfl) ?_
   refine w_a0 rfl (o_store (v := .int .i64 3) sz3 rfl rfl rfl rfl (one_cons rfl one_nil) .here (.here .done)) ?_
   rintro _ _ _ ⟨rfl, rfl, rfl⟩
   refine w_done ?_
   refine w_del (.there (.there .here)) ?_
   refine w_sl 2 (.bool hit) rfl ?_
   refine w_sl 3 (.pointer (some ⟨b_r_, 0, none⟩)) rfl ?_
   refine w_sl 6 (.pointer (some ⟨b_t6, 0, none⟩)) rfl ?_
   refine w_sl 8 (.pointer (some ⟨b_out, 0, none⟩)) rfl ?_
   exact radomeref23_Next.j4_ok (k := k) (hle.trans e37) he (h_out_1.mono e37)
  ·
   refine w_else rfl (Bool.eq_false_iff.2 c45) ?_
   refine w_skip ?_
   refine w_del (.there (.there .here)) ?_
   refine w_sl 2 (.bool hit) rfl ?_
   refine w_sl 3 (.pointer (some ⟨b_r_, 0, none⟩)) rfl ?_
   refine w_sl 6 (.pointer (some ⟨b_t6, 0, none⟩)) rfl ?_
   refine w_sl 8 (.pointer (some ⟨b_out, 0, none⟩)) rfl ?_
   exact radomeref23_Next.j4_ok (k := k) (hle.trans e37) he (h_out_1.mono e37)
 ·
  refine w_else rfl (Bool.eq_false_iff.2 c39) ?_
  refine w_skip ?_
  refine w_seq ?_
  refine w_seq ?_
  refine w_region rfl ?_
  refine w_d rfl (d_move (v := .bool hit) rfl) ?_
  refine w_done ?_
  rcases its he with ⟨c46, he⟩ | ⟨c46, he⟩
  ·
   refine w_then rfl c46 ?_
   refine w_seq ?_
   refine w_region rfl ?_
   refine w_d rfl (d_fld (o' := 0) Tryd.underlying60 rfl sz3 rfl rfl rfl) ?_
   refine w_a0 rfl (o_store (v := .int .i64 1) sz3 rfl rfl rfl rfl (one_cons rfl one_nil) .here (.here .done)) ?_
   rintro _ _ _ ⟨rfl, rfl, rfl⟩
   refine w_done ?_
   refine w_seq ?_
   refine w_region rfl ?_
   refine w_d rfl (d_loado (v := .agg ⟨[.int .i64 1, v_out_1, .int .i64 out_2]⟩) ty60 rfl .here rfl rfl rfl rfl) ?_
   refine w_a0 rfl (o_store (v := .agg ⟨[.int .i64 1, v_out_1, .int .i64 out_2]⟩) sz60 rfl rfl rfl rfl (one_cons rfl (one_cons (h_out_1.one) (one_cons rfl one_nil))) (.there .here) (.here (.here (.here .done)))) ?_
   rintro _ _ _ ⟨rfl, rfl, rfl⟩
   refine w_done ?_
   obtain rfl := Option.some.inj he
   refine w_return fn_33 rs_33 (.box (v := .agg ⟨[.int .i64 1, v_out_1, .int .i64 out_2]⟩) rfl ty60 rfl rfl (.there .here) rfl .nil) ?_
   exact ⟨⟨[_, _, _, _], rfl⟩, hle.trans e37, ⟨v_out_1, rfl, (h_out_1.mono e37)⟩⟩
  ·
   refine w_else rfl (Bool.eq_false_iff.2 c46) ?_
   refine w_skip ?_
   refine w_seq ?_
   refine w_region rfl ?_
   refine w_d rfl (d_fld (o' := 0) Tryd.underlying60 rfl sz3 rfl rfl rfl) ?_
   refine w_a0 rfl (o_store (v := .int .i64 2) sz3 rfl rfl rfl rfl (one_cons rfl one_nil) .here (.here .done)) ?_
   rintro _ _ _ ⟨rfl, rfl, rfl⟩
   refine w_done ?_
   refine w_seq ?_
   refine w_seq ?_
   refine w_region rfl ?_
   refine w_d rfl (d_fld (o' := 2) Tryd.underlying60 rfl sz3 rfl rfl rfl) ?_
   refine w_d rfl (d_loado (v := .int .i64 out_2) ty3 rfl .here rfl rfl rfl rfl) ?_
   refine w_d rfl (d_fld (o' := 2) Tryd.underlying49 rfl sz3 rfl rfl rfl) ?_
   refine w_d rfl (d_loado (v := .int .i64 r_2) ty3 rfl (.there (.there (.there .here))) rfl rfl rfl rfl) ?_
   refine w_d rfl (d_eql rfl rfl) ?_
   refine w_done ?_
   rcases its he with ⟨c47, he⟩ | ⟨c47, he⟩
   ·
    refine w_then rfl (decide_eq_true c47) ?_
    refine w_region rfl ?_
    refine w_d rfl (d_fld (o' := 0) Tryd.underlying60 rfl sz3 rfl rfl rfl) ?_
    refine w_a0 rfl (o_store (v := .int .i64 4) sz3 rfl rfl rfl rfl (one_cons rfl one_nil) .here (.here .done)) ?_
    rintro _ _ _ ⟨rfl, rfl, rfl⟩
    refine w_done ?_
    refine w_seq ?_
    refine w_region rfl ?_
    refine w_d rfl (d_loado (v := .agg ⟨[.int .i64 4, v_out_1, .int .i64 out_2]⟩) ty60 rfl .here rfl rfl rfl rfl) ?_
    refine w_a0 rfl (o_store (v := .agg ⟨[.int .i64 4, v_out_1, .int .i64 out_2]⟩) sz60 rfl rfl rfl rfl (one_cons rfl (one_cons (h_out_1.one) (one_cons rfl one_nil))) (.there .here) (.here (.here (.here .done)))) ?_
    rintro _ _ _ ⟨rfl, rfl, rfl⟩
    refine w_done ?_
    obtain rfl := Option.some.inj he
    refine w_return fn_33 rs_33 (.box (v := .agg ⟨[.int .i64 4, v_out_1, .int .i64 out_2]⟩) rfl ty60 rfl rfl (.there .here) rfl .nil) ?_
    exact ⟨⟨[_, _, _, _], rfl⟩, hle.trans e37, ⟨v_out_1, rfl, (h_out_1.mono e37)⟩⟩
   ·
    refine w_else rfl (decide_eq_false c47) ?_
    refine w_skip ?_
    refine w_seq ?_
    refine w_region rfl ?_
    refine w_d rfl (d_loado (v := .agg ⟨[.int .i64 2, v_out_1, .int .i64 out_2]⟩) ty60 rfl .here rfl rfl rfl rfl) ?_
    refine w_a0 rfl (o_store (v := .agg ⟨[.int .i64 2, v_out_1, .int .i64 out_2]⟩) sz60 rfl rfl rfl rfl (one_cons rfl (one_cons (h_out_1.one) (one_cons rfl one_nil))) (.there .here) (.here (.here (.here .done)))) ?_
    rintro _ _ _ ⟨rfl, rfl, rfl⟩
    refine w_done ?_
    obtain rfl := Option.some.inj he
    refine w_return fn_33 rs_33 (.box (v := .agg ⟨[.int .i64 2, v_out_1, .int .i64 out_2]⟩) rfl ty60 rfl rfl (.there .here) rfl .nil) ?_
    exact ⟨⟨[_, _, _, _], rfl⟩, hle.trans e37, ⟨v_out_1, rfl, (h_out_1.mono e37)⟩⟩
set_option maxRecDepth 100000 in
set_option maxHeartbeats 2000000 in
theorem radomeref23_Next.j2_ok {k : Nat} {H0 H : Hp} {L : Items} {r : radomeref23_Life} {jk_ : Nat → Value} {hit : Bool} {r_0 : Int} {r_1 : Int} {r_2 : Int} {l_0 : Int} {l_1 : List Bool} {l_2 : Int} {seen : List Bool} {out_0 : Int} {out_1 : List Bool} {out_2 : Int} {v_l_1 : Value} {v_seen : Value} {v_out_1 : Value} {b_r_ : Nat} {b_l : Nat} {b_t6 : Nat} {b_out : Nat} (hle : H0.le H) (he : radomeref23_Next.j2 k hit r_0 r_1 r_2 l_0 l_1 l_2 seen out_0 out_1 out_2 = some r) (h_l_1 : Ro Kd.bool H v_l_1 l_1) (h_seen : Ro Kd.bool H v_seen seen) (h_out_1 : Ro Kd.bool H v_out_1 out_1) : Wp Tryd.prog 33 75 radomeref23_Next.Kj2 (upd (upd (upd (upd (upd (upd jk_ 2 (.bool hit)) 3 (.pointer (some ⟨b_r_, 0, none⟩))) 4 (.pointer (some ⟨b_l, 0, none⟩))) 6 (.pointer (some ⟨b_t6, 0, none⟩))) 7 (v_seen)) 8 (.pointer (some ⟨b_out, 0, none⟩))) H (some (b_out, .cells ⟨[.int .i64 out_0, v_out_1, .int .i64 out_2]⟩ 60 (0, 0)) :: some (b_t6, .cells ⟨[.int .i64 0, .slice none 0 0, .int .i64 0]⟩ 60 (0, 0)) :: some (b_l, .cells ⟨[.int .i64 l_0, v_l_1, .int .i64 l_2]⟩ 60 (0, 0)) :: some (b_r_, .cells ⟨[.int .i64 r_0, .int .i64 r_1, .int .i64 r_2]⟩ 49 (0, 0)) :: L) (radomeref23_Next.R H0 L r) := by
 unfold radomeref23_Next.j2 at he
 unfold radomeref23_Next.Kj2
 refine w_seq ?_
 refine w_seq ?_
 refine w_region rfl ?_
 refine w_d rfl (d_fld (o' := 2) Tryd.underlying60 rfl sz3 rfl rfl rfl) ?_
 refine w_d rfl (d_loado (v := .int .i64 out_2) ty3 rfl .here rfl rfl rfl rfl) ?_
 refine w_d rfl (d_fld (o' := 2) Tryd.underlying49 rfl sz3 rfl rfl rfl) ?_
 refine w_d rfl (d_loado (v := .int .i64 r_2) ty3 rfl (.there (.there (.there .here))) rfl rfl rfl rfl) ?_
 refine w_d rfl (d_gtr rfl rfl) ?_
 refine w_done ?_
 rcases its he with ⟨c27, he⟩ | ⟨c27, he⟩
 ·
  refine w_then rfl (decide_eq_true c27) ?_
  refine w_region rfl ?_
  refine w_d rfl (d_fld (o' := 2) Tryd.underlying49 rfl sz3 rfl rfl rfl) ?_
  refine w_d rfl (d_loado (v := .int .i64 r_2) ty3 rfl (.there (.there (.there .here))) rfl rfl rfl rfl) ?_
  refine w_d rfl (d_fld (o' := 2) Tryd.underlying60 rfl sz3 rfl rfl rfl) ?_
  refine w_a0 rfl (o_store (v := .int .i64 r_2) sz3 rfl rfl rfl rfl (one_cons rfl one_nil) .here (.there (.there (.here .done)))) ?_
  rintro _ _ _ ⟨rfl, rfl, rfl⟩
  refine w_done ?_
  refine w_sl 2 (.bool hit) rfl ?_
  refine w_sl 3 (.pointer (some ⟨b_r_, 0, none⟩)) rfl ?_
  refine w_sl 4 (.pointer (some ⟨b_l, 0, none⟩)) rfl ?_
  refine w_sl 6 (.pointer (some ⟨b_t6, 0, none⟩)) rfl ?_
  refine w_sl 7 (v_seen) rfl ?_
  refine w_sl 8 (.pointer (some ⟨b_out, 0, none⟩)) rfl ?_
  exact radomeref23_Next.j3_ok (k := k) hle he h_l_1 h_seen h_out_1
 ·
  refine w_else rfl (decide_eq_false c27) ?_
  refine w_skip ?_
  refine w_sl 2 (.bool hit) rfl ?_
  refine w_sl 3 (.pointer (some ⟨b_r_, 0, none⟩)) rfl ?_
  refine w_sl 4 (.pointer (some ⟨b_l, 0, none⟩)) rfl ?_
  refine w_sl 6 (.pointer (some ⟨b_t6, 0, none⟩)) rfl ?_
  refine w_sl 7 (v_seen) rfl ?_
  refine w_sl 8 (.pointer (some ⟨b_out, 0, none⟩)) rfl ?_
  exact radomeref23_Next.j3_ok (k := k) hle he h_l_1 h_seen h_out_1
set_option maxRecDepth 100000 in
set_option maxHeartbeats 2000000 in
theorem radomeref23_Next.j1_ok {k : Nat} {H0 H : Hp} {L : Items} {r : radomeref23_Life} {jk_ : Nat → Value} {hit : Bool} {r_0 : Int} {r_1 : Int} {r_2 : Int} {l_0 : Int} {l_1 : List Bool} {l_2 : Int} {seen : List Bool} {v_l_1 : Value} {v_seen : Value} {b_r_ : Nat} {b_l : Nat} {b_t6 : Nat} (hle : H0.le H) (he : radomeref23_Next.j1 k hit r_0 r_1 r_2 l_0 l_1 l_2 seen = some r) (h_l_1 : Ro Kd.bool H v_l_1 l_1) (h_seen : Ro Kd.bool H v_seen seen) : Wp Tryd.prog 33 75 radomeref23_Next.Kj1 (upd (upd (upd (upd (upd jk_ 2 (.bool hit)) 3 (.pointer (some ⟨b_r_, 0, none⟩))) 4 (.pointer (some ⟨b_l, 0, none⟩))) 6 (.pointer (some ⟨b_t6, 0, none⟩))) 7 (v_seen)) H (some (b_t6, .cells ⟨[.int .i64 0, .slice none 0 0, .int .i64 0]⟩ 60 (0, 0)) :: some (b_l, .cells ⟨[.int .i64 l_0, v_l_1, .int .i64 l_2]⟩ 60 (0, 0)) :: some (b_r_, .cells ⟨[.int .i64 r_0, .int .i64 r_1, .int .i64 r_2]⟩ 49 (0, 0)) :: L) (radomeref23_Next.R H0 L r) := by
 unfold radomeref23_Next.j1 at he
 unfold radomeref23_Next.Kj1
 refine w_seq ?_
 refine w_region rfl ?_
 refine w_d rfl (d_fld (o' := 0) Tryd.underlying60 rfl sz3 rfl rfl rfl) ?_
 refine w_d rfl (d_loado (v := .int .i64 l_0) ty3 rfl (.there .here) rfl rfl rfl rfl) ?_
 refine w_d rfl (d_move (v := v_seen) rfl) ?_
 refine w_d rfl (d_fld (o' := 2) Tryd.underlying60 rfl sz3 rfl rfl rfl) ?_
 refine w_d rfl (d_loado (v := .int .i64 l_2) ty3 rfl (.there .here) rfl rfl rfl rfl) ?_
 refine w_d rfl (d_add (c := w64 (l_2 + 1)) rfl rfl rfl) ?_
 refine w_d rfl (d_build (cs' := [.int .i64 l_0, v_seen, .int .i64 (w64 (l_2 + 1))]) Tryd.underlying60 zr60 rfl (by kernel_rfl) (parts := [(0, .int .i64 l_0), (1, v_seen), (2, .int .i64 (w64 (l_2 + 1)))]) rfl (.cons (place_of rfl sz3 rfl) rfl rfl (.here .done) (.cons (place_of rfl sz50 rfl) h_seen.cells rfl (.there (.here .done)) (.cons (place_of rfl sz3 rfl) rfl rfl (.there (.there (.here .done))) .nil)))) ?_
 refine w_a rfl (o_alloc zr60 rfl) ?_
 rintro _ _ _ ⟨b25, rfl, rfl, rfl⟩
 refine w_a0 rfl (o_store (v := .agg ⟨[.int .i64 l_0, v_seen, .int .i64 (w64 (l_2 + 1))]⟩) sz60 rfl rfl rfl rfl (one_cons rfl (one_cons (h_seen.one) (one_cons rfl one_nil))) .here (.here (.here (.here .done)))) ?_
 rintro _ _ _ ⟨rfl, rfl, rfl⟩
 refine w_done ?_
 refine w_seq ?_
 refine w_seq ?_
 refine w_region rfl ?_
 refine w_d rfl (d_move (v := .bool hit) rfl) ?_
 refine w_done ?_
 rcases its he with ⟨c26, he⟩ | ⟨c26, he⟩
 ·
  refine w_then rfl c26 ?_
  refine w_region rfl ?_
  refine w_d rfl (d_fld (o' := 2) Tryd.underlying60 rfl sz3 rfl rfl rfl) ?_
  refine w_a0 rfl (o_store (v := .int .i64 0) sz3 rfl rfl rfl rfl (one_cons rfl one_nil) .here (.there (.there (.here .done)))) ?_
  rintro _ _ _ ⟨rfl, rfl, rfl⟩
  refine w_done ?_
  refine w_sl 2 (.bool hit) rfl ?_
  refine w_sl 3 (.pointer (some ⟨b_r_, 0, none⟩)) rfl ?_
  refine w_sl 4 (.pointer (some ⟨b_l, 0, none⟩)) rfl ?_
  refine w_sl 6 (.pointer (some ⟨b_t6, 0, none⟩)) rfl ?_
  refine w_sl 7 (v_seen) rfl ?_
  refine w_sl 8 (.pointer (some ⟨b25, 0, none⟩)) rfl ?_
  exact radomeref23_Next.j2_ok (k := k) hle he h_l_1 h_seen h_seen
 ·
  refine w_else rfl (Bool.eq_false_iff.2 c26) ?_
  refine w_skip ?_
  refine w_sl 2 (.bool hit) rfl ?_
  refine w_sl 3 (.pointer (some ⟨b_r_, 0, none⟩)) rfl ?_
  refine w_sl 4 (.pointer (some ⟨b_l, 0, none⟩)) rfl ?_
  refine w_sl 6 (.pointer (some ⟨b_t6, 0, none⟩)) rfl ?_
  refine w_sl 7 (v_seen) rfl ?_
  refine w_sl 8 (.pointer (some ⟨b25, 0, none⟩)) rfl ?_
  exact radomeref23_Next.j2_ok (k := k) hle he h_l_1 h_seen h_seen
set_option maxRecDepth 100000 in
set_option maxHeartbeats 2000000 in
theorem radomeref23_Next.calls (k : Nat) {H : Hp} {L : Items} {r_ : radomeref23_Rule} {l : radomeref23_Life} {hit : Bool} {v0_l : Value} {r : radomeref23_Life} (he : radomeref23_Next.f k r_ l hit = some r) (h0_l : Ro Kd.bool H v0_l l.f_Seen) : Ct Tryd.prog 33 ⟨[.agg ⟨[.int .i64 r_.f_Hits, .int .i64 r_.f_Window, .int .i64 r_.f_Misses]⟩, .agg ⟨[.int .i64 l.f_Kind, v0_l, .int .i64 l.f_Missed]⟩, .bool hit]⟩ H L (fun v H' L' => L = L' ∧ H.le H' ∧ radomeref23_Next.out r H' v) := by
 refine ct_out (O := radomeref23_Next.out r) ?_
 have hle : H.le H := .refl _
 unfold radomeref23_Next.f at he
 refine ct_enter (args := [.agg ⟨[.int .i64 r_.f_Hits, .int .i64 r_.f_Window, .int .i64 r_.f_Misses]⟩, .agg ⟨[.int .i64 l.f_Kind, v0_l, .int .i64 l.f_Missed]⟩, .bool hit]) fn_33 rfl nt_33 rfl ?_
 refine w_seq ?_
 refine w_region rfl ?_
 refine w_a rfl (o_box (v := .agg ⟨[.int .i64 r_.f_Hits, .int .i64 r_.f_Window, .int .i64 r_.f_Misses]⟩) rfl rfl) ?_
 rintro _ _ _ ⟨b1, rfl, rfl, rfl⟩
 refine w_a rfl (o_box (v := .agg ⟨[.int .i64 l.f_Kind, v0_l, .int .i64 l.f_Missed]⟩) rfl rfl) ?_
 rintro _ _ _ ⟨b2, rfl, rfl, rfl⟩
 refine w_a rfl (o_alloc zr60 rfl) ?_
 rintro _ _ _ ⟨b3, rfl, rfl, rfl⟩
 refine w_done ?_
 refine w_seq ?_
 refine w_region rfl ?_
 refine w_d rfl (d_assign (v := .slice none 0 0) rfl) ?_
 refine w_done ?_
 refine w_seq ?_
 refine w_region rfl ?_
 refine w_d rfl (d_move (v := .slice none 0 0) rfl) ?_
 refine w_d rfl (d_fld (o' := 1) Tryd.underlying60 rfl sz50 rfl rfl rfl) ?_
 refine w_d rfl (d_loado (v := v0_l) ty50 rfl (.there .here) rfl rfl rfl rfl) ?_
 refine w_none ?_
 obtain ⟨c4, he⟩ := rq he
 refine w_a rfl (o_append' (kd := Kd.bool) (F := fun z_ => z_ :: some (b3, .cells ⟨[.int .i64 0, .slice none 0 0, .int .i64 0]⟩ 60 (0, 0)) :: some (b2, .cells ⟨[.int .i64 l.f_Kind, v0_l, .int .i64 l.f_Missed]⟩ 60 (0, 0)) :: some (b1, .cells ⟨[.int .i64 r_.f_Hits, .int .i64 r_.f_Window, .int .i64 r_.f_Misses]⟩ 49 (0, 0)) :: L) Tryd.underlying50 Tryd.underlying50 ti4 rfl (by first | omega | (simp only [List.nil_append, List.length_cons, List.length_nil]; omega)) rfl rfl (sl_nil _ _ _) h0_l.src (fun _ => .here)) ?_
 rintro v5 _ _ ⟨i6, rfl, rfl, h7⟩
 refine w_d rfl (d_move (v := .bool hit) rfl) ?_
 refine w_a rfl (o_buildSlice' (kd := Kd.bool) (css := [[.bool hit]]) (xs := [hit]) (parts := [(0, .bool hit)]) Tryd.underlying50 ti4 rfl ⟨_, _, rfl, rfl, rfl⟩ ⟨rfl, trivial⟩ rfl (by decide)) ?_
 rintro v8 _ _ ⟨i9, rfl, rfl, h10⟩
 obtain ⟨c11, he⟩ := rq he
 refine w_a rfl (o_append' (kd := Kd.bool) (F := fun z_ => i9 :: z_ :: some (b3, .cells ⟨[.int .i64 0, .slice none 0 0, .int .i64 0]⟩ 60 (0, 0)) :: some (b2, .cells ⟨[.int .i64 l.f_Kind, v0_l, .int .i64 l.f_Missed]⟩ 60 (0, 0)) :: some (b1, .cells ⟨[.int .i64 r_.f_Hits, .int .i64 r_.f_Window, .int .i64 r_.f_Misses]⟩ 49 (0, 0)) :: L) Tryd.underlying50 Tryd.underlying50 ti4 rfl (by first | omega | (simp only [List.nil_append, List.length_cons, List.length_nil]; omega)) rfl rfl h7 (h10.src .here) (fun _ => (.there .here))) ?_
 rintro v12 _ _ ⟨i13, rfl, rfl, h14⟩
 refine w_d rfl (d_assign (v := v12) rfl) ?_
 refine w_done ?_
 refine w_seq ?_
 refine w_seq ?_
 refine w_region rfl ?_
 refine w_d rfl (d_move (v := v12) rfl) ?_
 refine w_d rfl (d_len Tryd.underlying50 rfl (h14.src (.there .here))) ?_
 refine w_d rfl (d_fld (o' := 1) Tryd.underlying49 rfl sz3 rfl rfl rfl) ?_
 refine w_d rfl (d_loado (v := .int .i64 r_.f_Window) ty3 rfl (.there (.there (.there (.there .here)))) rfl rfl rfl rfl) ?_
 refine w_d rfl (d_gtr rfl rfl) ?_
 refine w_done ?_
 rcases its he with ⟨c15, he⟩ | ⟨c15, he⟩
 ·
  refine w_then rfl (decide_eq_true c15) ?_
  refine w_region rfl ?_
  refine w_d rfl (d_move (v := v12) rfl) ?_
  obtain ⟨c16, he⟩ := rq he
  refine w_freeze h14 (.there .here) ?_
  intro H17 e18 h19
  refine w_a rfl (o_cut (kd := Kd.bool) Tryd.underlying50 sz4 rfl h19 (.inr ⟨_, _, rfl, rfl⟩) (.inl ⟨rfl, rfl⟩) c16) ?_
  rintro v20 _ _ ⟨h21, rfl, rfl⟩
  refine w_d rfl (d_assign (v := v20) rfl) ?_
  refine w_done ?_
  refine w_del (.there .here) ?_
  refine w_del .here ?_
  refine w_sl 2 (.bool hit) rfl ?_
  refine w_sl 3 (.pointer (some ⟨b1, 0, none⟩)) rfl ?_
  refine w_sl 4 (.pointer (some ⟨b2, 0, none⟩)) rfl ?_
  refine w_sl 6 (.pointer (some ⟨b3, 0, none⟩)) rfl ?_
  refine w_sl 7 (v20) rfl ?_
  exact radomeref23_Next.j1_ok (k := k) (hle.trans e18) he (h0_l.mono e18) h21
 ·
  refine w_else rfl (decide_eq_false c15) ?_
  refine w_skip ?_
  refine w_freeze h14 (.there .here) ?_
  intro H22 e23 h24
  refine w_del (.there .here) ?_
  refine w_del .here ?_
  refine w_sl 2 (.bool hit) rfl ?_
  refine w_sl 3 (.pointer (some ⟨b1, 0, none⟩)) rfl ?_
  refine w_sl 4 (.pointer (some ⟨b2, 0, none⟩)) rfl ?_
  refine w_sl 6 (.pointer (some ⟨b3, 0, none⟩)) rfl ?_
  refine w_sl 7 (v12) rfl ?_
  exact radomeref23_Next.j1_ok (k := k) (hle.trans e23) he (h0_l.mono e23) h24
end Go.Proofs.YtddcfnhbedpbnaaDoor.GTR

/- A text of this session, written by a program (wip/k/gen.py): Go functions as Lean functions, and proofs that the code comes to them. -/
import Derived.Test.YtddcfnhbedpbnaaGLLt
namespace Go.Proofs.Ytddcfnhbedpbnaa.GLL
open Go Go.RowKit Go.Proofs.YtddcfnhbedpbnaaK Go.Proofs.Ytddcfnhbedpbnaa
set_option linter.unusedVariables false
set_option linter.unusedSimpArgs false
/-! ### radome/radomeref23.Check -/
noncomputable def radomeref23_Check.C : Code := (Try.f20.body).getD .skip
def radomeref23_Check.out (r : Bool) (H : Hp) (v : Value) : Prop := v = .bool r
abbrev radomeref23_Check.R (H0 : Hp) (L : Items) (r : Bool) : Value → Hp → Items → Prop := fun v H' L' => (∃ p, L' = p ++ L) ∧ H0.le H' ∧ radomeref23_Check.out r H' v
noncomputable def radomeref23_Check.f (k : Nat) (r_ : radomeref23_Rule) : Option Bool := some ((((((decide (1 ≤ r_.f_Window)) && (decide (r_.f_Window ≤ 16))) && (decide (1 ≤ r_.f_Hits))) && (decide (r_.f_Hits ≤ r_.f_Window))) && (decide (1 ≤ r_.f_Misses))) && (decide (r_.f_Misses ≤ 64)))
theorem radomeref23_Check.mono : ∀ k y0, LeO (radomeref23_Check.f k y0) (radomeref23_Check.f (k + 1) y0) := fun k _ => by unfold radomeref23_Check.f; exact (LeO.refl _)
set_option maxRecDepth 100000 in
set_option maxHeartbeats 2000000 in
theorem radomeref23_Check.calls (k : Nat) {H : Hp} {L : Items} {r_ : radomeref23_Rule} {r : Bool} (he : radomeref23_Check.f k r_ = some r) : Ct Try.prog 20 ⟨[.agg ⟨[.int .i64 r_.f_Hits, .int .i64 r_.f_Window, .int .i64 r_.f_Misses]⟩]⟩ H L (fun v H' L' => L = L' ∧ H = H' ∧ v = .bool r) := by
 refine ct_outs (O := radomeref23_Check.out r) (fun _ _ h => h) ?_
 have hle : H.le H := .refl _
 unfold radomeref23_Check.f at he
 refine ct_enter (args := [.agg ⟨[.int .i64 r_.f_Hits, .int .i64 r_.f_Window, .int .i64 r_.f_Misses]⟩]) fn_20 rfl nt_20 rfl ?_
 refine w_seq ?_
 refine w_region rfl ?_
 refine w_a rfl (o_box (v := .agg ⟨[.int .i64 r_.f_Hits, .int .i64 r_.f_Window, .int .i64 r_.f_Misses]⟩) rfl rfl) ?_
 rintro _ _ _ ⟨b1, rfl, rfl, rfl⟩
 refine w_d rfl (d_assign (v := .bool false) rfl) ?_
 refine w_done ?_
 refine w_seq ?_
 refine w_region rfl ?_
 refine w_d rfl (d_fld (o' := 1) Try.underlying43 rfl sz3 rfl rfl rfl) ?_
 refine w_d rfl (d_loado (v := .int .i64 r_.f_Window) ty3 rfl .here rfl rfl rfl rfl) ?_
 refine w_d rfl (d_geq rfl rfl) ?_
 refine w_d rfl (d_move (v := .bool (decide (1 ≤ r_.f_Window))) rfl) ?_
 refine w_g (g := decide (1 ≤ r_.f_Window)) rfl rfl rfl wn_t (fun g2 => d_fld (o' := 1) Try.underlying43 rfl sz3 rfl rfl rfl) ?_
 refine w_g (g := decide (1 ≤ r_.f_Window)) rfl rfl rfl wn_t (fun g3 => d_loado (v := .int .i64 r_.f_Window) ty3 (cvt g3) .here rfl rfl rfl rfl) ?_
 refine w_g (g := decide (1 ≤ r_.f_Window)) rfl rfl rfl wn_t (fun g4 => d_leq (cvt g4) rfl) ?_
 refine w_d rfl (d_and' (b := (decide (1 ≤ r_.f_Window))) (p := (decide (r_.f_Window ≤ 16))) rfl rfl rfl) ?_
 refine w_d rfl (d_move (v := .bool ((decide (1 ≤ r_.f_Window)) && (decide (r_.f_Window ≤ 16)))) rfl) ?_
 refine w_g (g := (decide (1 ≤ r_.f_Window)) && (decide (r_.f_Window ≤ 16))) rfl rfl rfl wn_t (fun g5 => d_fld (o' := 0) Try.underlying43 rfl sz3 rfl rfl rfl) ?_
 refine w_g (g := (decide (1 ≤ r_.f_Window)) && (decide (r_.f_Window ≤ 16))) rfl rfl rfl wn_t (fun g6 => d_loado (v := .int .i64 r_.f_Hits) ty3 (cvt g6) .here rfl rfl rfl rfl) ?_
 refine w_g (g := (decide (1 ≤ r_.f_Window)) && (decide (r_.f_Window ≤ 16))) rfl rfl rfl wn_t (fun g7 => d_geq (cvt g7) rfl) ?_
 refine w_d rfl (d_and' (b := ((decide (1 ≤ r_.f_Window)) && (decide (r_.f_Window ≤ 16)))) (p := (decide (1 ≤ r_.f_Hits))) rfl rfl rfl) ?_
 refine w_d rfl (d_move (v := .bool (((decide (1 ≤ r_.f_Window)) && (decide (r_.f_Window ≤ 16))) && (decide (1 ≤ r_.f_Hits)))) rfl) ?_
 refine w_g (g := ((decide (1 ≤ r_.f_Window)) && (decide (r_.f_Window ≤ 16))) && (decide (1 ≤ r_.f_Hits))) rfl rfl rfl wn_t (fun g8 => d_fld (o' := 0) Try.underlying43 rfl sz3 rfl rfl rfl) ?_
 refine w_g (g := ((decide (1 ≤ r_.f_Window)) && (decide (r_.f_Window ≤ 16))) && (decide (1 ≤ r_.f_Hits))) rfl rfl rfl wn_t (fun g9 => d_loado (v := .int .i64 r_.f_Hits) ty3 (cvt g9) .here rfl rfl rfl rfl) ?_
 refine w_g (g := ((decide (1 ≤ r_.f_Window)) && (decide (r_.f_Window ≤ 16))) && (decide (1 ≤ r_.f_Hits))) rfl rfl rfl wn_t (fun g10 => d_fld (o' := 1) Try.underlying43 rfl sz3 rfl rfl rfl) ?_
 refine w_g (g := ((decide (1 ≤ r_.f_Window)) && (decide (r_.f_Window ≤ 16))) && (decide (1 ≤ r_.f_Hits))) rfl rfl rfl wn_t (fun g11 => d_loado (v := .int .i64 r_.f_Window) ty3 (cvt g11) .here rfl rfl rfl rfl) ?_
 refine w_g (g := ((decide (1 ≤ r_.f_Window)) && (decide (r_.f_Window ≤ 16))) && (decide (1 ≤ r_.f_Hits))) rfl rfl rfl wn_t (fun g12 => d_leq (cvt g12) (cvt g12)) ?_
 refine w_d rfl (d_and' (b := (((decide (1 ≤ r_.f_Window)) && (decide (r_.f_Window ≤ 16))) && (decide (1 ≤ r_.f_Hits)))) (p := (decide (r_.f_Hits ≤ r_.f_Window))) rfl rfl rfl) ?_
 refine w_d rfl (d_move (v := .bool ((((decide (1 ≤ r_.f_Window)) && (decide (r_.f_Window ≤ 16))) && (decide (1 ≤ r_.f_Hits))) && (decide (r_.f_Hits ≤ r_.f_Window)))) rfl) ?_
 refine w_g (g := (((decide (1 ≤ r_.f_Window)) && (decide (r_.f_Window ≤ 16))) && (decide (1 ≤ r_.f_Hits))) && (decide (r_.f_Hits ≤ r_.f_Window))) rfl rfl rfl wn_t (fun g13 => d_fld (o' := 2) Try.underlying43 rfl sz3 rfl rfl rfl) ?_
 refine w_g (g := (((decide (1 ≤ r_.f_Window)) && (decide (r_.f_Window ≤ 16))) && (decide (1 ≤ r_.f_Hits))) && (decide (r_.f_Hits ≤ r_.f_Window))) rfl rfl rfl wn_t (fun g14 => d_loado (v := .int .i64 r_.f_Misses) ty3 (cvt g14) .here rfl rfl rfl rfl) ?_
 refine w_g (g := (((decide (1 ≤ r_.f_Window)) && (decide (r_.f_Window ≤ 16))) && (decide (1 ≤ r_.f_Hits))) && (decide (r_.f_Hits ≤ r_.f_Window))) rfl rfl rfl wn_t (fun g15 => d_geq (cvt g15) rfl) ?_
 refine w_d rfl (d_and' (b := ((((decide (1 ≤ r_.f_Window)) && (decide (r_.f_Window ≤ 16))) && (decide (1 ≤ r_.f_Hits))) && (decide (r_.f_Hits ≤ r_.f_Window)))) (p := (decide (1 ≤ r_.f_Misses))) rfl rfl rfl) ?_
 refine w_d rfl (d_move (v := .bool (((((decide (1 ≤ r_.f_Window)) && (decide (r_.f_Window ≤ 16))) && (decide (1 ≤ r_.f_Hits))) && (decide (r_.f_Hits ≤ r_.f_Window))) && (decide (1 ≤ r_.f_Misses)))) rfl) ?_
 refine w_g (g := ((((decide (1 ≤ r_.f_Window)) && (decide (r_.f_Window ≤ 16))) && (decide (1 ≤ r_.f_Hits))) && (decide (r_.f_Hits ≤ r_.f_Window))) && (decide (1 ≤ r_.f_Misses))) rfl rfl rfl wn_t (fun g16 => d_fld (o' := 2) Try.underlying43 rfl sz3 rfl rfl rfl) ?_
 refine w_g (g := ((((decide (1 ≤ r_.f_Window)) && (decide (r_.f_Window ≤ 16))) && (decide (1 ≤ r_.f_Hits))) && (decide (r_.f_Hits ≤ r_.f_Window))) && (decide (1 ≤ r_.f_Misses))) rfl rfl rfl wn_t (fun g17 => d_loado (v := .int .i64 r_.f_Misses) ty3 (cvt g17) .here rfl rfl rfl rfl) ?_
 refine w_g (g := ((((decide (1 ≤ r_.f_Window)) && (decide (r_.f_Window ≤ 16))) && (decide (1 ≤ r_.f_Hits))) && (decide (r_.f_Hits ≤ r_.f_Window))) && (decide (1 ≤ r_.f_Misses))) rfl rfl rfl wn_t (fun g18 => d_leq (cvt g18) rfl) ?_
 refine w_d rfl (d_and' (b := (((((decide (1 ≤ r_.f_Window)) && (decide (r_.f_Window ≤ 16))) && (decide (1 ≤ r_.f_Hits))) && (decide (r_.f_Hits ≤ r_.f_Window))) && (decide (1 ≤ r_.f_Misses)))) (p := (decide (r_.f_Misses ≤ 64))) rfl rfl rfl) ?_
 refine w_d rfl (d_assign (v := .bool ((((((decide (1 ≤ r_.f_Window)) && (decide (r_.f_Window ≤ 16))) && (decide (1 ≤ r_.f_Hits))) && (decide (r_.f_Hits ≤ r_.f_Window))) && (decide (1 ≤ r_.f_Misses))) && (decide (r_.f_Misses ≤ 64)))) rfl) ?_
 refine w_done ?_
 obtain rfl := Option.some.inj he
 refine w_return fn_20 rs_20 (.tmp (v := .bool ((((((decide (1 ≤ r_.f_Window)) && (decide (r_.f_Window ≤ 16))) && (decide (1 ≤ r_.f_Hits))) && (decide (r_.f_Hits ≤ r_.f_Window))) && (decide (1 ≤ r_.f_Misses))) && (decide (r_.f_Misses ≤ 64)))) rfl .nil) ?_
 exact ⟨⟨[_], rfl⟩, hle, rfl⟩
/-! ### radome/life.Check -/
noncomputable def life_Check.C : Code := (Try.f30.body).getD .skip
def life_Check.out (r : (Option Int)) (H : Hp) (v : Value) : Prop := v = errV 55 r
abbrev life_Check.R (H0 : Hp) (L : Items) (r : (Option Int)) : Value → Hp → Items → Prop := fun v H' L' => (∃ p, L' = p ++ L) ∧ H0.le H' ∧ life_Check.out r H' v
noncomputable def life_Check.f (k : Nat) (r_ : life_Rule) : Option (Option Int) := if (((((decide (r_.f_Hits < 1)) || (decide (r_.f_Window < r_.f_Hits))) || (decide (16 < r_.f_Window))) || (decide (r_.f_Misses < 1))) || (decide (64 < r_.f_Misses))) = true then (some (some 1)) else (some (none))
theorem life_Check.mono : ∀ k y0, LeO (life_Check.f k y0) (life_Check.f (k + 1) y0) := fun k _ => by unfold life_Check.f; exact (LeO.ite (LeO.refl _) (LeO.refl _))
set_option maxRecDepth 100000 in
set_option maxHeartbeats 2000000 in
theorem life_Check.calls (k : Nat) {H : Hp} {L : Items} {r_ : life_Rule} {r : (Option Int)} (he : life_Check.f k r_ = some r) : Ct Try.prog 30 ⟨[.agg ⟨[.int .i64 r_.f_Hits, .int .i64 r_.f_Window, .int .i64 r_.f_Misses]⟩]⟩ H L (fun v H' L' => L = L' ∧ H = H' ∧ v = errV 55 r) := by
 refine ct_outs (O := life_Check.out r) (fun _ _ h => h) ?_
 have hle : H.le H := .refl _
 unfold life_Check.f at he
 refine ct_enter (args := [.agg ⟨[.int .i64 r_.f_Hits, .int .i64 r_.f_Window, .int .i64 r_.f_Misses]⟩]) fn_30 rfl nt_30 rfl ?_
 refine w_seq ?_
 refine w_region rfl ?_
 refine w_a rfl (o_box (v := .agg ⟨[.int .i64 r_.f_Hits, .int .i64 r_.f_Window, .int .i64 r_.f_Misses]⟩) rfl rfl) ?_
 rintro _ _ _ ⟨b1, rfl, rfl, rfl⟩
 refine w_d rfl (d_assign (v := errV 55 none) rfl) ?_
 refine w_done ?_
 refine w_seq ?_
 refine w_seq ?_
 refine w_region rfl ?_
 refine w_d rfl (d_fld (o' := 0) Try.underlying50 rfl sz3 rfl rfl rfl) ?_
 refine w_d rfl (d_loado (v := .int .i64 r_.f_Hits) ty3 rfl .here rfl rfl rfl rfl) ?_
 refine w_d rfl (d_lss rfl rfl) ?_
 refine w_d rfl (d_move (v := .bool (decide (r_.f_Hits < 1))) rfl) ?_
 refine w_g (g := !(decide (r_.f_Hits < 1))) rfl rfl rfl wn_f (fun g2 => d_fld (o' := 0) Try.underlying50 rfl sz3 rfl rfl rfl) ?_
 refine w_g (g := !(decide (r_.f_Hits < 1))) rfl rfl rfl wn_f (fun g3 => d_loado (v := .int .i64 r_.f_Hits) ty3 (cvt g3) .here rfl rfl rfl rfl) ?_
 refine w_g (g := !(decide (r_.f_Hits < 1))) rfl rfl rfl wn_f (fun g4 => d_fld (o' := 1) Try.underlying50 rfl sz3 rfl rfl rfl) ?_
 refine w_g (g := !(decide (r_.f_Hits < 1))) rfl rfl rfl wn_f (fun g5 => d_loado (v := .int .i64 r_.f_Window) ty3 (cvt g5) .here rfl rfl rfl rfl) ?_
 refine w_g (g := !(decide (r_.f_Hits < 1))) rfl rfl rfl wn_f (fun g6 => d_gtr (cvt g6) (cvt g6)) ?_
 refine w_d rfl (d_or' (b := (decide (r_.f_Hits < 1))) (p := (decide (r_.f_Window < r_.f_Hits))) rfl rfl rfl) ?_
 refine w_d rfl (d_move (v := .bool ((decide (r_.f_Hits < 1)) || (decide (r_.f_Window < r_.f_Hits)))) rfl) ?_
 refine w_g (g := !((decide (r_.f_Hits < 1)) || (decide (r_.f_Window < r_.f_Hits)))) rfl rfl rfl wn_f (fun g7 => d_fld (o' := 1) Try.underlying50 rfl sz3 rfl rfl rfl) ?_
 refine w_g (g := !((decide (r_.f_Hits < 1)) || (decide (r_.f_Window < r_.f_Hits)))) rfl rfl rfl wn_f (fun g8 => d_loado (v := .int .i64 r_.f_Window) ty3 (cvt g8) .here rfl rfl rfl rfl) ?_
 refine w_g (g := !((decide (r_.f_Hits < 1)) || (decide (r_.f_Window < r_.f_Hits)))) rfl rfl rfl wn_f (fun g9 => d_gtr (cvt g9) rfl) ?_
 refine w_d rfl (d_or' (b := ((decide (r_.f_Hits < 1)) || (decide (r_.f_Window < r_.f_Hits)))) (p := (decide (16 < r_.f_Window))) rfl rfl rfl) ?_
 refine w_d rfl (d_move (v := .bool (((decide (r_.f_Hits < 1)) || (decide (r_.f_Window < r_.f_Hits))) || (decide (16 < r_.f_Window)))) rfl) ?_
 refine w_g (g := !(((decide (r_.f_Hits < 1)) || (decide (r_.f_Window < r_.f_Hits))) || (decide (16 < r_.f_Window)))) rfl rfl rfl wn_f (fun g10 => d_fld (o' := 2) Try.underlying50 rfl sz3 rfl rfl rfl) ?_
 refine w_g (g := !(((decide (r_.f_Hits < 1)) || (decide (r_.f_Window < r_.f_Hits))) || (decide (16 < r_.f_Window)))) rfl rfl rfl wn_f (fun g11 => d_loado (v := .int .i64 r_.f_Misses) ty3 (cvt g11) .here rfl rfl rfl rfl) ?_
 refine w_g (g := !(((decide (r_.f_Hits < 1)) || (decide (r_.f_Window < r_.f_Hits))) || (decide (16 < r_.f_Window)))) rfl rfl rfl wn_f (fun g12 => d_lss (cvt g12) rfl) ?_
 refine w_d rfl (d_or' (b := (((decide (r_.f_Hits < 1)) || (decide (r_.f_Window < r_.f_Hits))) || (decide (16 < r_.f_Window)))) (p := (decide (r_.f_Misses < 1))) rfl rfl rfl) ?_
 refine w_d rfl (d_move (v := .bool ((((decide (r_.f_Hits < 1)) || (decide (r_.f_Window < r_.f_Hits))) || (decide (16 < r_.f_Window))) || (decide (r_.f_Misses < 1)))) rfl) ?_
 refine w_g (g := !((((decide (r_.f_Hits < 1)) || (decide (r_.f_Window < r_.f_Hits))) || (decide (16 < r_.f_Window))) || (decide (r_.f_Misses < 1)))) rfl rfl rfl wn_f (fun g13 => d_fld (o' := 2) Try.underlying50 rfl sz3 rfl rfl rfl) ?_
 refine w_g (g := !((((decide (r_.f_Hits < 1)) || (decide (r_.f_Window < r_.f_Hits))) || (decide (16 < r_.f_Window))) || (decide (r_.f_Misses < 1)))) rfl rfl rfl wn_f (fun g14 => d_loado (v := .int .i64 r_.f_Misses) ty3 (cvt g14) .here rfl rfl rfl rfl) ?_
 refine w_g (g := !((((decide (r_.f_Hits < 1)) || (decide (r_.f_Window < r_.f_Hits))) || (decide (16 < r_.f_Window))) || (decide (r_.f_Misses < 1)))) rfl rfl rfl wn_f (fun g15 => d_gtr (cvt g15) rfl) ?_
 refine w_d rfl (d_or' (b := ((((decide (r_.f_Hits < 1)) || (decide (r_.f_Window < r_.f_Hits))) || (decide (16 < r_.f_Window))) || (decide (r_.f_Misses < 1)))) (p := (decide (64 < r_.f_Misses))) rfl rfl rfl) ?_
 refine w_done ?_
 rcases its he with ⟨c16, he⟩ | ⟨c16, he⟩
 ·
  refine w_then rfl c16 ?_
  refine w_seq ?_
  refine w_region rfl ?_
  refine w_d rfl (d_iface (v := .int .i64 1) Try.underlying55 rfl rfl) ?_
  refine w_d rfl (d_assign (v := errV 55 (some 1)) rfl) ?_
  refine w_done ?_
  obtain rfl := Option.some.inj he
  refine w_return fn_30 rs_30 (.tmp (v := errV 55 (some 1)) rfl .nil) ?_
  exact ⟨⟨[_], rfl⟩, hle, rfl⟩
 ·
  refine w_else rfl (Bool.eq_false_iff.2 c16) ?_
  refine w_skip ?_
  refine w_seq ?_
  refine w_region rfl ?_
  refine w_d rfl (d_assign (v := errV 55 none) rfl) ?_
  refine w_done ?_
  obtain rfl := Option.some.inj he
  refine w_return fn_30 rs_30 (.tmp (v := errV 55 none) rfl .nil) ?_
  exact ⟨⟨[_], rfl⟩, hle, rfl⟩
/-! ### radome/life.Born -/
noncomputable def life_Born.C : Code := (Try.f22.body).getD .skip
def life_Born.out (r : life_Life × (Option Int)) (H : Hp) (v : Value) : Prop := v = .tuple ⟨[.agg ⟨[.int .i64 r.1.f_Kind, .int .u32 r.1.f_Seen, .int .i64 r.1.f_Age, .int .i64 r.1.f_Missed]⟩, errV 55 r.2]⟩
abbrev life_Born.R (H0 : Hp) (L : Items) (r : life_Life × (Option Int)) : Value → Hp → Items → Prop := fun v H' L' => (∃ p, L' = p ++ L) ∧ H0.le H' ∧ life_Born.out r H' v
noncomputable def life_Born.f (k : Nat) (r_ : life_Rule) : Option (life_Life × (Option Int)) := (life_Check.f k (⟨r_.f_Hits, r_.f_Window, r_.f_Misses⟩ : life_Rule)).bind fun y3 => if y3.isSome = true then (some ((⟨0, 0, 0, 0⟩ : life_Life), y3)) else (if r_.f_Hits = 1 then (some ((⟨1, 1, 1, 0⟩ : life_Life), none)) else (if r_.f_Window = 1 then (some ((⟨3, 1, 1, 0⟩ : life_Life), none)) else (some ((⟨0, 1, 1, 0⟩ : life_Life), none))))
theorem life_Born.mono : ∀ k y0, LeO (life_Born.f k y0) (life_Born.f (k + 1) y0) := fun k _ => by unfold life_Born.f; exact (LeO.bind (life_Check.mono k _) fun _ => LeO.ite (LeO.refl _) (LeO.ite (LeO.refl _) (LeO.ite (LeO.refl _) (LeO.refl _))))
set_option maxRecDepth 100000 in
set_option maxHeartbeats 2000000 in
theorem life_Born.calls (k : Nat) {H : Hp} {L : Items} {r_ : life_Rule} {r : life_Life × (Option Int)} (he : life_Born.f k r_ = some r) : Ct Try.prog 22 ⟨[.agg ⟨[.int .i64 r_.f_Hits, .int .i64 r_.f_Window, .int .i64 r_.f_Misses]⟩]⟩ H L (fun v H' L' => L = L' ∧ H = H' ∧ v = .tuple ⟨[.agg ⟨[.int .i64 r.1.f_Kind, .int .u32 r.1.f_Seen, .int .i64 r.1.f_Age, .int .i64 r.1.f_Missed]⟩, errV 55 r.2]⟩) := by
 refine ct_outs (O := life_Born.out r) (fun _ _ h => h) ?_
 have hle : H.le H := .refl _
 unfold life_Born.f at he
 refine ct_enter (args := [.agg ⟨[.int .i64 r_.f_Hits, .int .i64 r_.f_Window, .int .i64 r_.f_Misses]⟩]) fn_22 rfl nt_22 rfl ?_
 refine w_seq ?_
 refine w_region rfl ?_
 refine w_a rfl (o_box (v := .agg ⟨[.int .i64 r_.f_Hits, .int .i64 r_.f_Window, .int .i64 r_.f_Misses]⟩) rfl rfl) ?_
 rintro _ _ _ ⟨b1, rfl, rfl, rfl⟩
 refine w_a rfl (o_alloc zr47 rfl) ?_
 rintro _ _ _ ⟨b2, rfl, rfl, rfl⟩
 refine w_d rfl (d_assign (v := errV 55 none) rfl) ?_
 refine w_done ?_
 refine w_seq ?_
 refine w_seq ?_
 refine w_region rfl ?_
 refine w_d rfl (d_loado (v := .agg ⟨[.int .i64 r_.f_Hits, .int .i64 r_.f_Window, .int .i64 r_.f_Misses]⟩) ty50 rfl (.there .here) rfl rfl rfl rfl) ?_
 obtain ⟨y3, hy4, he⟩ := Option.bind_eq_some_iff.1 he
 refine w_d rfl (call_d (o_call co30 (vs := [.agg ⟨[.int .i64 r_.f_Hits, .int .i64 r_.f_Window, .int .i64 r_.f_Misses]⟩]) rfl (life_Check.calls k (r_ := (⟨r_.f_Hits, r_.f_Window, r_.f_Misses⟩ : life_Rule)) hy4))) ?_
 refine w_d rfl (d_assign (v := errV 55 y3) rfl) ?_
 refine w_done ?_
 refine w_seq ?_
 refine w_region rfl ?_
 refine w_d rfl (d_move (v := errV 55 y3) rfl) ?_
 refine w_d rfl (d_nenil (e := y3) Try.underlying24 rfl) ?_
 refine w_done ?_
 rcases its he with ⟨c7, he⟩ | ⟨c7, he⟩
 ·
  refine w_then rfl c7 ?_
  refine w_seq ?_
  refine w_region rfl ?_
  refine w_d rfl (d_build (cs' := [.int .i64 0, .int .u32 0, .int .i64 0, .int .i64 0]) Try.underlying47 zr47 rfl (by kernel_rfl) (parts := []) rfl .nil) ?_
  refine w_d rfl (d_move (v := errV 55 y3) rfl) ?_
  refine w_a0 rfl (o_store (v := .agg ⟨[.int .i64 0, .int .u32 0, .int .i64 0, .int .i64 0]⟩) sz47 rfl rfl rfl rfl (one_cons rfl (one_cons rfl (one_cons rfl (one_cons rfl one_nil)))) .here (.here (.here (.here (.here .done))))) ?_
  rintro _ _ _ ⟨rfl, rfl, rfl⟩
  refine w_d rfl (d_assign (v := errV 55 y3) rfl) ?_
  refine w_done ?_
  obtain rfl := Option.some.inj he
  refine w_return fn_22 rs_22 (.box (v := .agg ⟨[.int .i64 0, .int .u32 0, .int .i64 0, .int .i64 0]⟩) rfl ty47 rfl rfl .here rfl (.tmp (v := errV 55 y3) rfl .nil)) ?_
  exact ⟨⟨[_, _], rfl⟩, hle, rfl⟩
 ·
  refine w_else rfl (Bool.eq_false_iff.2 c7) ?_
  refine w_skip ?_
  refine w_seq ?_
  refine w_region rfl ?_
  refine w_d rfl (d_build (cs' := [.int .i64 0, .int .u32 1, .int .i64 1, .int .i64 0]) Try.underlying47 zr47 rfl (by kernel_rfl) (parts := [(0, .int .i64 0), (1, .int .u32 1), (2, .int .i64 1)]) rfl (.cons (place_of rfl sz3 rfl) rfl rfl (.here .done) (.cons (place_of rfl sz29 rfl) rfl rfl (.there (.here .done)) (.cons (place_of rfl sz3 rfl) rfl rfl (.there (.there (.here .done))) .nil)))) ?_
  refine w_a rfl (o_alloc zr47 rfl) ?_
  rintro _ _ _ ⟨b8, rfl, rfl, rfl⟩
  refine w_a0 rfl (o_store (v := .agg ⟨[.int .i64 0, .int .u32 1, .int .i64 1, .int .i64 0]⟩) sz47 rfl rfl rfl rfl (one_cons rfl (one_cons rfl (one_cons rfl (one_cons rfl one_nil)))) .here (.here (.here (.here (.here .done))))) ?_
  rintro _ _ _ ⟨rfl, rfl, rfl⟩
  refine w_done ?_
  refine w_seq ?_
  refine w_block ?_
  refine w_seq ?_
  refine w_region rfl ?_
  refine w_d rfl (d_fld (o' := 0) Try.underlying50 rfl sz3 rfl rfl rfl) ?_
  refine w_d rfl (d_loado (v := .int .i64 r_.f_Hits) ty3 rfl (.there (.there .here)) rfl rfl rfl rfl) ?_
  refine w_d rfl (d_eql rfl rfl) ?_
  refine w_d rfl (d_assign (v := .bool (decide (r_.f_Hits = 1))) rfl) ?_
  refine w_done ?_
  rcases its he with ⟨c9, he⟩ | ⟨c9, he⟩
  ·
   refine w_then rfl (decide_eq_true c9) ?_
   refine w_region rfl ?_
   refine w_d rfl (d_fld (o' := 0) Try.underlying47 rfl sz3 rfl rfl rfl) ?_
   refine w_a0 rfl (o_store (v := .int .i64 1) sz3 rfl rfl rfl rfl (one_cons rfl one_nil) .here (.here .done)) ?_
   rintro _ _ _ ⟨rfl, rfl, rfl⟩
   refine w_done ?_
   refine w_inBlock ?_
   refine w_seq ?_
   refine w_region rfl ?_
   refine w_d rfl (d_loado (v := .agg ⟨[.int .i64 1, .int .u32 1, .int .i64 1, .int .i64 0]⟩) ty47 rfl .here rfl rfl rfl rfl) ?_
   refine w_a0 rfl (o_store (v := .agg ⟨[.int .i64 1, .int .u32 1, .int .i64 1, .int .i64 0]⟩) sz47 rfl rfl rfl rfl (one_cons rfl (one_cons rfl (one_cons rfl (one_cons rfl one_nil)))) (.there .here) (.here (.here (.here (.here .done))))) ?_
   rintro _ _ _ ⟨rfl, rfl, rfl⟩
   refine w_d rfl (d_assign (v := errV 55 none) rfl) ?_
   refine w_done ?_
   obtain rfl := Option.some.inj he
   refine w_return fn_22 rs_22 (.box (v := .agg ⟨[.int .i64 1, .int .u32 1, .int .i64 1, .int .i64 0]⟩) rfl ty47 rfl rfl (.there .here) rfl (.tmp (v := errV 55 none) rfl .nil)) ?_
   exact ⟨⟨[_, _, _], rfl⟩, hle, rfl⟩
  ·
   refine w_else rfl (decide_eq_false c9) ?_
   refine w_seq ?_
   refine w_region rfl ?_
   refine w_d rfl (d_fld (o' := 1) Try.underlying50 rfl sz3 rfl rfl rfl) ?_
   refine w_d rfl (d_loado (v := .int .i64 r_.f_Window) ty3 rfl (.there (.there .here)) rfl rfl rfl rfl) ?_
   refine w_d rfl (d_eql rfl rfl) ?_
   refine w_d rfl (d_assign (v := .bool (decide (r_.f_Window = 1))) rfl) ?_
   refine w_done ?_
   rcases its he with ⟨c10, he⟩ | ⟨c10, he⟩
   ·
    refine w_then rfl (decide_eq_true c10) ?_
    refine w_region rfl ?_
    refine w_d rfl (d_fld (o' := 0) Try.underlying47 rfl sz3 rfl rfl rfl) ?_
    refine w_a0 rfl (o_store (v := .int .i64 3) sz3 rfl rfl rfl rfl (one_cons rfl one_nil) .here (.here .done)) ?_
    rintro _ _ _ ⟨rfl, rfl, rfl⟩
    refine w_done ?_
    refine w_inBlock ?_
    refine w_seq ?_
    refine w_region rfl ?_
    refine w_d rfl (d_loado (v := .agg ⟨[.int .i64 3, .int .u32 1, .int .i64 1, .int .i64 0]⟩) ty47 rfl .here rfl rfl rfl rfl) ?_
    refine w_a0 rfl (o_store (v := .agg ⟨[.int .i64 3, .int .u32 1, .int .i64 1, .int .i64 0]⟩) sz47 rfl rfl rfl rfl (one_cons rfl (one_cons rfl (one_cons rfl (one_cons rfl one_nil)))) (.there .here) (.here (.here (.here (.here .done))))) ?_
    rintro _ _ _ ⟨rfl, rfl, rfl⟩
    refine w_d rfl (d_assign (v := errV 55 none) rfl) ?_
    refine w_done ?_
    obtain rfl := Option.some.inj he
    refine w_return fn_22 rs_22 (.box (v := .agg ⟨[.int .i64 3, .int .u32 1, .int .i64 1, .int .i64 0]⟩) rfl ty47 rfl rfl (.there .here) rfl (.tmp (v := errV 55 none) rfl .nil)) ?_
    exact ⟨⟨[_, _, _], rfl⟩, hle, rfl⟩
   ·
    refine w_else rfl (decide_eq_false c10) ?_
    refine w_skip ?_
    refine w_inBlock ?_
    refine w_seq ?_
    refine w_region rfl ?_
    refine w_d rfl (d_loado (v := .agg ⟨[.int .i64 0, .int .u32 1, .int .i64 1, .int .i64 0]⟩) ty47 rfl .here rfl rfl rfl rfl) ?_
    refine w_a0 rfl (o_store (v := .agg ⟨[.int .i64 0, .int .u32 1, .int .i64 1, .int .i64 0]⟩) sz47 rfl rfl rfl rfl (one_cons rfl (one_cons rfl (one_cons rfl (one_cons rfl one_nil)))) (.there .here) (.here (.here (.here (.here .done))))) ?_
    rintro _ _ _ ⟨rfl, rfl, rfl⟩
    refine w_d rfl (d_assign (v := errV 55 none) rfl) ?_
    refine w_done ?_
    obtain rfl := Option.some.inj he
    refine w_return fn_22 rs_22 (.box (v := .agg ⟨[.int .i64 0, .int .u32 1, .int .i64 1, .int .i64 0]⟩) rfl ty47 rfl rfl (.there .here) rfl (.tmp (v := errV 55 none) rfl .nil)) ?_
    exact ⟨⟨[_, _, _], rfl⟩, hle, rfl⟩
/-! ### (radome/life.Life).missed -/
noncomputable def life_Life_missed.C : Code := (Try.f35.body).getD .skip
def life_Life_missed.out (r : Bool) (H : Hp) (v : Value) : Prop := v = .bool r
abbrev life_Life_missed.R (H0 : Hp) (L : Items) (r : Bool) : Value → Hp → Items → Prop := fun v H' L' => (∃ p, L' = p ++ L) ∧ H0.le H' ∧ life_Life_missed.out r H' v
noncomputable def life_Life_missed.j1 (k : Nat)  (l_0 : Int) (l_1 : Int) (l_2 : Int) (l_3 : Int) (r_0 : Int) (r_1 : Int) (r_2 : Int) (t6 : Int) (t7 : Bool) : Option Bool := if t7 = true then (some ((decide (0 ≤ l_3)) && (decide (l_3 ≤ r_2)))) else (if t6 = 1 then (some (decide (l_3 = 0))) else (if t6 = 2 then (some ((decide (1 ≤ l_3)) && (decide (l_3 < r_2)))) else (if t6 = 4 then (some (decide (l_3 = r_2))) else (some (false)))))
noncomputable def life_Life_missed.f (k : Nat) (l : life_Life) (r_ : life_Rule) : Option Bool := if l.f_Kind = 0 then (life_Life_missed.j1 k l.f_Kind l.f_Seen l.f_Age l.f_Missed r_.f_Hits r_.f_Window r_.f_Misses l.f_Kind (decide (l.f_Kind = 0))) else (life_Life_missed.j1 k l.f_Kind l.f_Seen l.f_Age l.f_Missed r_.f_Hits r_.f_Window r_.f_Misses l.f_Kind (decide (l.f_Kind = 3)))
theorem life_Life_missed.j1_mono {k : Nat} : ∀ y0 y1 y2 y3 y4 y5 y6 y7 y8, LeO (life_Life_missed.j1 k y0 y1 y2 y3 y4 y5 y6 y7 y8) (life_Life_missed.j1 (k + 1) y0 y1 y2 y3 y4 y5 y6 y7 y8) := fun _ _ _ _ _ _ _ _ _ => (LeO.ite (LeO.refl _) (LeO.ite (LeO.refl _) (LeO.ite (LeO.refl _) (LeO.ite (LeO.refl _) (LeO.refl _)))))
theorem life_Life_missed.mono : ∀ k y0 y1, LeO (life_Life_missed.f k y0 y1) (life_Life_missed.f (k + 1) y0 y1) := fun k _ _ => by unfold life_Life_missed.f; exact (LeO.ite (life_Life_missed.j1_mono (k := k)  _ _ _ _ _ _ _ _ _) (life_Life_missed.j1_mono (k := k)  _ _ _ _ _ _ _ _ _))
noncomputable def life_Life_missed.Kj1 : List Item := .code (seqR (blkB (seqR (seqL (seqR life_Life_missed.C))))) :: .inBlock 0 :: .code (seqR (seqR life_Life_missed.C)) :: []
set_option maxRecDepth 100000 in
set_option maxHeartbeats 2000000 in
theorem life_Life_missed.j1_ok {k : Nat} {H0 H : Hp} {L : Items} {r : Bool} {jk_ : Nat → Value} {l_0 : Int} {l_1 : Int} {l_2 : Int} {l_3 : Int} {r_0 : Int} {r_1 : Int} {r_2 : Int} {t6 : Int} {t7 : Bool} {b_l : Nat} {b_r_ : Nat} (hle : H0.le H) (he : life_Life_missed.j1 k l_0 l_1 l_2 l_3 r_0 r_1 r_2 t6 t7 = some r) : Wp Try.prog 35 44 life_Life_missed.Kj1 (upd (upd (upd (upd (upd jk_ 2 (.pointer (some ⟨b_l, 0, none⟩))) 3 (.pointer (some ⟨b_r_, 0, none⟩))) 4 (.bool false)) 6 (.int .i64 t6)) 7 (.bool t7)) H (some (b_r_, .cells ⟨[.int .i64 r_0, .int .i64 r_1, .int .i64 r_2]⟩ 50 (0, 0)) :: some (b_l, .cells ⟨[.int .i64 l_0, .int .u32 l_1, .int .i64 l_2, .int .i64 l_3]⟩ 47 (0, 0)) :: L) (life_Life_missed.R H0 L r) := by
 unfold life_Life_missed.j1 at he
 unfold life_Life_missed.Kj1
 rcases its he with ⟨c4, he⟩ | ⟨c4, he⟩
 ·
  refine w_then rfl c4 ?_
  refine w_seq ?_
  refine w_region rfl ?_
  refine w_d rfl (d_fld (o' := 3) Try.underlying47 rfl sz3 rfl rfl rfl) ?_
  refine w_d rfl (d_loado (v := .int .i64 l_3) ty3 rfl (.there .here) rfl rfl rfl rfl) ?_
  refine w_d rfl (d_geq rfl rfl) ?_
  refine w_d rfl (d_move (v := .bool (decide (0 ≤ l_3))) rfl) ?_
  refine w_g (g := decide (0 ≤ l_3)) rfl rfl rfl wn_t (fun g5 => d_fld (o' := 3) Try.underlying47 rfl sz3 rfl rfl rfl) ?_
  refine w_g (g := decide (0 ≤ l_3)) rfl rfl rfl wn_t (fun g6 => d_loado (v := .int .i64 l_3) ty3 (cvt g6) (.there .here) rfl rfl rfl rfl) ?_
  refine w_g (g := decide (0 ≤ l_3)) rfl rfl rfl wn_t (fun g7 => d_fld (o' := 2) Try.underlying50 rfl sz3 rfl rfl rfl) ?_
  refine w_g (g := decide (0 ≤ l_3)) rfl rfl rfl wn_t (fun g8 => d_loado (v := .int .i64 r_2) ty3 (cvt g8) .here rfl rfl rfl rfl) ?_
  refine w_g (g := decide (0 ≤ l_3)) rfl rfl rfl wn_t (fun g9 => d_leq (cvt g9) (cvt g9)) ?_
  refine w_d rfl (d_and' (b := (decide (0 ≤ l_3))) (p := (decide (l_3 ≤ r_2))) rfl rfl rfl) ?_
  refine w_d rfl (d_assign (v := .bool ((decide (0 ≤ l_3)) && (decide (l_3 ≤ r_2)))) rfl) ?_
  refine w_done ?_
  obtain rfl := Option.some.inj he
  refine w_return fn_35 rs_35 (.tmp (v := .bool ((decide (0 ≤ l_3)) && (decide (l_3 ≤ r_2)))) rfl .nil) ?_
  exact ⟨⟨[_, _], rfl⟩, hle, rfl⟩
 ·
  refine w_else rfl (Bool.eq_false_iff.2 c4) ?_
  refine w_seq ?_
  refine w_region rfl ?_
  refine w_d rfl (d_eql rfl rfl) ?_
  refine w_d rfl (d_assign (v := .bool (decide (t6 = 1))) rfl) ?_
  refine w_done ?_
  rcases its he with ⟨c10, he⟩ | ⟨c10, he⟩
  ·
   refine w_then rfl (decide_eq_true c10) ?_
   refine w_seq ?_
   refine w_region rfl ?_
   refine w_d rfl (d_fld (o' := 3) Try.underlying47 rfl sz3 rfl rfl rfl) ?_
   refine w_d rfl (d_loado (v := .int .i64 l_3) ty3 rfl (.there .here) rfl rfl rfl rfl) ?_
   refine w_d rfl (d_eql rfl rfl) ?_
   refine w_d rfl (d_assign (v := .bool (decide (l_3 = 0))) rfl) ?_
   refine w_done ?_
   obtain rfl := Option.some.inj he
   refine w_return fn_35 rs_35 (.tmp (v := .bool (decide (l_3 = 0))) rfl .nil) ?_
   exact ⟨⟨[_, _], rfl⟩, hle, rfl⟩
  ·
   refine w_else rfl (decide_eq_false c10) ?_
   refine w_seq ?_
   refine w_region rfl ?_
   refine w_d rfl (d_eql rfl rfl) ?_
   refine w_d rfl (d_assign (v := .bool (decide (t6 = 2))) rfl) ?_
   refine w_done ?_
   rcases its he with ⟨c11, he⟩ | ⟨c11, he⟩
   ·
    refine w_then rfl (decide_eq_true c11) ?_
    refine w_seq ?_
    refine w_region rfl ?_
    refine w_d rfl (d_fld (o' := 3) Try.underlying47 rfl sz3 rfl rfl rfl) ?_
    refine w_d rfl (d_loado (v := .int .i64 l_3) ty3 rfl (.there .here) rfl rfl rfl rfl) ?_
    refine w_d rfl (d_geq rfl rfl) ?_
    refine w_d rfl (d_move (v := .bool (decide (1 ≤ l_3))) rfl) ?_
    refine w_g (g := decide (1 ≤ l_3)) rfl rfl rfl wn_t (fun g12 => d_fld (o' := 3) Try.underlying47 rfl sz3 rfl rfl rfl) ?_
    refine w_g (g := decide (1 ≤ l_3)) rfl rfl rfl wn_t (fun g13 => d_loado (v := .int .i64 l_3) ty3 (cvt g13) (.there .here) rfl rfl rfl rfl) ?_
    refine w_g (g := decide (1 ≤ l_3)) rfl rfl rfl wn_t (fun g14 => d_fld (o' := 2) Try.underlying50 rfl sz3 rfl rfl rfl) ?_
    refine w_g (g := decide (1 ≤ l_3)) rfl rfl rfl wn_t (fun g15 => d_loado (v := .int .i64 r_2) ty3 (cvt g15) .here rfl rfl rfl rfl) ?_
    refine w_g (g := decide (1 ≤ l_3)) rfl rfl rfl wn_t (fun g16 => d_lss (cvt g16) (cvt g16)) ?_
    refine w_d rfl (d_and' (b := (decide (1 ≤ l_3))) (p := (decide (l_3 < r_2))) rfl rfl rfl) ?_
    refine w_d rfl (d_assign (v := .bool ((decide (1 ≤ l_3)) && (decide (l_3 < r_2)))) rfl) ?_
    refine w_done ?_
    obtain rfl := Option.some.inj he
    refine w_return fn_35 rs_35 (.tmp (v := .bool ((decide (1 ≤ l_3)) && (decide (l_3 < r_2)))) rfl .nil) ?_
    exact ⟨⟨[_, _], rfl⟩, hle, rfl⟩
   ·
    refine w_else rfl (decide_eq_false c11) ?_
    refine w_seq ?_
    refine w_region rfl ?_
    refine w_d rfl (d_eql rfl rfl) ?_
    refine w_d rfl (d_assign (v := .bool (decide (t6 = 4))) rfl) ?_
    refine w_done ?_
    rcases its he with ⟨c17, he⟩ | ⟨c17, he⟩
    ·
     refine w_then rfl (decide_eq_true c17) ?_
     refine w_seq ?_
     refine w_region rfl ?_
     refine w_d rfl (d_fld (o' := 3) Try.underlying47 rfl sz3 rfl rfl rfl) ?_
     refine w_d rfl (d_loado (v := .int .i64 l_3) ty3 rfl (.there .here) rfl rfl rfl rfl) ?_
     refine w_d rfl (d_fld (o' := 2) Try.underlying50 rfl sz3 rfl rfl rfl) ?_
     refine w_d rfl (d_loado (v := .int .i64 r_2) ty3 rfl .here rfl rfl rfl rfl) ?_
     refine w_d rfl (d_eql rfl rfl) ?_
     refine w_d rfl (d_assign (v := .bool (decide (l_3 = r_2))) rfl) ?_
     refine w_done ?_
     obtain rfl := Option.some.inj he
     refine w_return fn_35 rs_35 (.tmp (v := .bool (decide (l_3 = r_2))) rfl .nil) ?_
     exact ⟨⟨[_, _], rfl⟩, hle, rfl⟩
    ·
     refine w_else rfl (decide_eq_false c17) ?_
     refine w_skip ?_
     refine w_inBlock ?_
     refine w_seq ?_
     refine w_region rfl ?_
     refine w_d rfl (d_assign (v := .bool false) rfl) ?_
     refine w_done ?_
     obtain rfl := Option.some.inj he
     refine w_return fn_35 rs_35 (.tmp (v := .bool false) rfl .nil) ?_
     exact ⟨⟨[_, _], rfl⟩, hle, rfl⟩
set_option maxRecDepth 100000 in
set_option maxHeartbeats 2000000 in
theorem life_Life_missed.calls (k : Nat) {H : Hp} {L : Items} {l : life_Life} {r_ : life_Rule} {r : Bool} (he : life_Life_missed.f k l r_ = some r) : Ct Try.prog 35 ⟨[.agg ⟨[.int .i64 l.f_Kind, .int .u32 l.f_Seen, .int .i64 l.f_Age, .int .i64 l.f_Missed]⟩, .agg ⟨[.int .i64 r_.f_Hits, .int .i64 r_.f_Window, .int .i64 r_.f_Misses]⟩]⟩ H L (fun v H' L' => L = L' ∧ H = H' ∧ v = .bool r) := by
 refine ct_outs (O := life_Life_missed.out r) (fun _ _ h => h) ?_
 have hle : H.le H := .refl _
 unfold life_Life_missed.f at he
 refine ct_enter (args := [.agg ⟨[.int .i64 l.f_Kind, .int .u32 l.f_Seen, .int .i64 l.f_Age, .int .i64 l.f_Missed]⟩, .agg ⟨[.int .i64 r_.f_Hits, .int .i64 r_.f_Window, .int .i64 r_.f_Misses]⟩]) fn_35 rfl nt_35 rfl ?_
 refine w_seq ?_
 refine w_region rfl ?_
 refine w_a rfl (o_box (v := .agg ⟨[.int .i64 l.f_Kind, .int .u32 l.f_Seen, .int .i64 l.f_Age, .int .i64 l.f_Missed]⟩) rfl rfl) ?_
 rintro _ _ _ ⟨b1, rfl, rfl, rfl⟩
 refine w_a rfl (o_box (v := .agg ⟨[.int .i64 r_.f_Hits, .int .i64 r_.f_Window, .int .i64 r_.f_Misses]⟩) rfl rfl) ?_
 rintro _ _ _ ⟨b2, rfl, rfl, rfl⟩
 refine w_d rfl (d_assign (v := .bool false) rfl) ?_
 refine w_done ?_
 refine w_seq ?_
 refine w_seq ?_
 refine w_region rfl ?_
 refine w_d rfl (d_fld (o' := 0) Try.underlying47 rfl sz3 rfl rfl rfl) ?_
 refine w_d rfl (d_loado (v := .int .i64 l.f_Kind) ty3 rfl (.there .here) rfl rfl rfl rfl) ?_
 refine w_done ?_
 refine w_block ?_
 refine w_seq ?_
 refine w_seq ?_
 refine w_region rfl ?_
 refine w_d rfl (d_eql rfl rfl) ?_
 refine w_d rfl (d_assign (v := .bool (decide (l.f_Kind = 0))) rfl) ?_
 refine w_done ?_
 rcases its he with ⟨c3, he⟩ | ⟨c3, he⟩
 ·
  refine w_then rfl (decide_eq_true c3) ?_
  refine w_skip ?_
  refine w_sl 2 (.pointer (some ⟨b1, 0, none⟩)) rfl ?_
  refine w_sl 3 (.pointer (some ⟨b2, 0, none⟩)) rfl ?_
  refine w_sl 4 (.bool false) rfl ?_
  refine w_sl 6 (.int .i64 l.f_Kind) rfl ?_
  refine w_sl 7 (.bool (decide (l.f_Kind = 0))) rfl ?_
  exact life_Life_missed.j1_ok (k := k) hle he
 ·
  refine w_else rfl (decide_eq_false c3) ?_
  refine w_region rfl ?_
  refine w_d rfl (d_eql rfl rfl) ?_
  refine w_d rfl (d_assign (v := .bool (decide (l.f_Kind = 3))) rfl) ?_
  refine w_done ?_
  refine w_sl 2 (.pointer (some ⟨b1, 0, none⟩)) rfl ?_
  refine w_sl 3 (.pointer (some ⟨b2, 0, none⟩)) rfl ?_
  refine w_sl 4 (.bool false) rfl ?_
  refine w_sl 6 (.int .i64 l.f_Kind) rfl ?_
  refine w_sl 7 (.bool (decide (l.f_Kind = 3))) rfl ?_
  exact life_Life_missed.j1_ok (k := k) hle he
/-! ### radome/life.May -/
noncomputable def life_May.C : Code := (Try.f31.body).getD .skip
def life_May.out (r : (Option Int)) (H : Hp) (v : Value) : Prop := v = errV 55 r
abbrev life_May.R (H0 : Hp) (L : Items) (r : (Option Int)) : Value → Hp → Items → Prop := fun v H' L' => (∃ p, L' = p ++ L) ∧ H0.le H' ∧ life_May.out r H' v
noncomputable def life_May.f (k : Nat) (r_ : life_Rule) (l : life_Life) : Option (Option Int) := (life_Check.f k (⟨r_.f_Hits, r_.f_Window, r_.f_Misses⟩ : life_Rule)).bind fun y3 => if (!((y3.isSome || (decide (l.f_Age < 1))) || (decide (r_.f_Window < l.f_Age)))) = true → 0 ≤ l.f_Age then ((gd (!(((y3.isSome || (decide (l.f_Age < 1))) || (decide (r_.f_Window < l.f_Age))) || (!decide ((l.f_Seen / 2 ^ shn .u32 l.f_Age) = 0)))) (life_Life_missed.f k (⟨l.f_Kind, l.f_Seen, l.f_Age, l.f_Missed⟩ : life_Life) (⟨r_.f_Hits, r_.f_Window, r_.f_Misses⟩ : life_Rule)) (false)).bind fun y25 => if ((((y3.isSome || (decide (l.f_Age < 1))) || (decide (r_.f_Window < l.f_Age))) || (!decide ((l.f_Seen / 2 ^ shn .u32 l.f_Age) = 0))) || (!y25)) = true then (some (some 1)) else (some (none))) else none
theorem life_May.mono : ∀ k y0 y1, LeO (life_May.f k y0 y1) (life_May.f (k + 1) y0 y1) := fun k _ _ => by unfold life_May.f; exact (LeO.bind (life_Check.mono k _) fun _ => LeO.ite (LeO.bind (LeO.gd (life_Life_missed.mono k _ _)) fun _ => LeO.ite (LeO.refl _) (LeO.refl _)) (LeO.refl _))
set_option maxRecDepth 100000 in
set_option maxHeartbeats 2000000 in
theorem life_May.calls (k : Nat) {H : Hp} {L : Items} {r_ : life_Rule} {l : life_Life} {r : (Option Int)} (he : life_May.f k r_ l = some r) : Ct Try.prog 31 ⟨[.agg ⟨[.int .i64 r_.f_Hits, .int .i64 r_.f_Window, .int .i64 r_.f_Misses]⟩, .agg ⟨[.int .i64 l.f_Kind, .int .u32 l.f_Seen, .int .i64 l.f_Age, .int .i64 l.f_Missed]⟩]⟩ H L (fun v H' L' => L = L' ∧ H = H' ∧ v = errV 55 r) := by
 refine ct_outs (O := life_May.out r) (fun _ _ h => h) ?_
 have hle : H.le H := .refl _
 unfold life_May.f at he
 refine ct_enter (args := [.agg ⟨[.int .i64 r_.f_Hits, .int .i64 r_.f_Window, .int .i64 r_.f_Misses]⟩, .agg ⟨[.int .i64 l.f_Kind, .int .u32 l.f_Seen, .int .i64 l.f_Age, .int .i64 l.f_Missed]⟩]) fn_31 rfl nt_31 rfl ?_
 refine w_seq ?_
 refine w_region rfl ?_
 refine w_a rfl (o_box (v := .agg ⟨[.int .i64 r_.f_Hits, .int .i64 r_.f_Window, .int .i64 r_.f_Misses]⟩) rfl rfl) ?_
 rintro _ _ _ ⟨b1, rfl, rfl, rfl⟩
 refine w_a rfl (o_box (v := .agg ⟨[.int .i64 l.f_Kind, .int .u32 l.f_Seen, .int .i64 l.f_Age, .int .i64 l.f_Missed]⟩) rfl rfl) ?_
 rintro _ _ _ ⟨b2, rfl, rfl, rfl⟩
 refine w_d rfl (d_assign (v := errV 55 none) rfl) ?_
 refine w_done ?_
 refine w_seq ?_
 refine w_seq ?_
 refine w_region rfl ?_
 refine w_d rfl (d_loado (v := .agg ⟨[.int .i64 r_.f_Hits, .int .i64 r_.f_Window, .int .i64 r_.f_Misses]⟩) ty50 rfl (.there .here) rfl rfl rfl rfl) ?_
 obtain ⟨y3, hy4, he⟩ := Option.bind_eq_some_iff.1 he
 refine w_d rfl (call_d (o_call co30 (vs := [.agg ⟨[.int .i64 r_.f_Hits, .int .i64 r_.f_Window, .int .i64 r_.f_Misses]⟩]) rfl (life_Check.calls k (r_ := (⟨r_.f_Hits, r_.f_Window, r_.f_Misses⟩ : life_Rule)) hy4))) ?_
 refine w_d rfl (d_nenil (e := y3) Try.underlying24 rfl) ?_
 refine w_d rfl (d_move (v := .bool y3.isSome) rfl) ?_
 refine w_g (g := !y3.isSome) rfl rfl rfl wn_f (fun g7 => d_fld (o' := 2) Try.underlying47 rfl sz3 rfl rfl rfl) ?_
 refine w_g (g := !y3.isSome) rfl rfl rfl wn_f (fun g8 => d_loado (v := .int .i64 l.f_Age) ty3 (cvt g8) .here rfl rfl rfl rfl) ?_
 refine w_g (g := !y3.isSome) rfl rfl rfl wn_f (fun g9 => d_lss (cvt g9) rfl) ?_
 refine w_d rfl (d_or' (b := y3.isSome) (p := (decide (l.f_Age < 1))) rfl rfl rfl) ?_
 refine w_d rfl (d_move (v := .bool (y3.isSome || (decide (l.f_Age < 1)))) rfl) ?_
 refine w_g (g := !(y3.isSome || (decide (l.f_Age < 1)))) rfl rfl rfl wn_f (fun g10 => d_fld (o' := 2) Try.underlying47 rfl sz3 rfl rfl rfl) ?_
 refine w_g (g := !(y3.isSome || (decide (l.f_Age < 1)))) rfl rfl rfl wn_f (fun g11 => d_loado (v := .int .i64 l.f_Age) ty3 (cvt g11) .here rfl rfl rfl rfl) ?_
 refine w_g (g := !(y3.isSome || (decide (l.f_Age < 1)))) rfl rfl rfl wn_f (fun g12 => d_fld (o' := 1) Try.underlying50 rfl sz3 rfl rfl rfl) ?_
 refine w_g (g := !(y3.isSome || (decide (l.f_Age < 1)))) rfl rfl rfl wn_f (fun g13 => d_loado (v := .int .i64 r_.f_Window) ty3 (cvt g13) (.there .here) rfl rfl rfl rfl) ?_
 refine w_g (g := !(y3.isSome || (decide (l.f_Age < 1)))) rfl rfl rfl wn_f (fun g14 => d_gtr (cvt g14) (cvt g14)) ?_
 refine w_d rfl (d_or' (b := (y3.isSome || (decide (l.f_Age < 1)))) (p := (decide (r_.f_Window < l.f_Age))) rfl rfl rfl) ?_
 refine w_d rfl (d_move (v := .bool ((y3.isSome || (decide (l.f_Age < 1))) || (decide (r_.f_Window < l.f_Age)))) rfl) ?_
 refine w_g (g := !((y3.isSome || (decide (l.f_Age < 1))) || (decide (r_.f_Window < l.f_Age)))) rfl rfl rfl wn_f (fun g15 => d_fld (o' := 1) Try.underlying47 rfl sz29 rfl rfl rfl) ?_
 refine w_g (g := !((y3.isSome || (decide (l.f_Age < 1))) || (decide (r_.f_Window < l.f_Age)))) rfl rfl rfl wn_f (fun g16 => d_loado (v := .int .u32 l.f_Seen) ty29 (cvt g16) .here rfl rfl rfl rfl) ?_
 refine w_g (g := !((y3.isSome || (decide (l.f_Age < 1))) || (decide (r_.f_Window < l.f_Age)))) rfl rfl rfl wn_f (fun g17 => d_fld (o' := 2) Try.underlying47 rfl sz3 rfl rfl rfl) ?_
 refine w_g (g := !((y3.isSome || (decide (l.f_Age < 1))) || (decide (r_.f_Window < l.f_Age)))) rfl rfl rfl wn_f (fun g18 => d_loado (v := .int .i64 l.f_Age) ty3 (cvt g18) .here rfl rfl rfl rfl) ?_
 obtain ⟨c20, he⟩ := rq he
 refine w_g (g := !((y3.isSome || (decide (l.f_Age < 1))) || (decide (r_.f_Window < l.f_Age)))) rfl rfl rfl wn_f (fun g19 => d_shr (c := l.f_Seen / 2 ^ shn .u32 l.f_Age) (cvt g19) (cvt g19) (c20 g19) rfl) ?_
 refine w_g (g := !((y3.isSome || (decide (l.f_Age < 1))) || (decide (r_.f_Window < l.f_Age)))) rfl rfl rfl wn_f (fun g21 => d_neq (cvt g21) rfl) ?_
 refine w_d rfl (d_or' (b := ((y3.isSome || (decide (l.f_Age < 1))) || (decide (r_.f_Window < l.f_Age)))) (p := (!decide ((l.f_Seen / 2 ^ shn .u32 l.f_Age) = 0))) rfl rfl rfl) ?_
 refine w_d rfl (d_move (v := .bool (((y3.isSome || (decide (l.f_Age < 1))) || (decide (r_.f_Window < l.f_Age))) || (!decide ((l.f_Seen / 2 ^ shn .u32 l.f_Age) = 0)))) rfl) ?_
 refine w_g (g := !(((y3.isSome || (decide (l.f_Age < 1))) || (decide (r_.f_Window < l.f_Age))) || (!decide ((l.f_Seen / 2 ^ shn .u32 l.f_Age) = 0)))) rfl rfl rfl wn_f (fun g22 => d_loado (v := .agg ⟨[.int .i64 l.f_Kind, .int .u32 l.f_Seen, .int .i64 l.f_Age, .int .i64 l.f_Missed]⟩) ty47 rfl .here rfl rfl rfl rfl) ?_
 refine w_g (g := !(((y3.isSome || (decide (l.f_Age < 1))) || (decide (r_.f_Window < l.f_Age))) || (!decide ((l.f_Seen / 2 ^ shn .u32 l.f_Age) = 0)))) rfl rfl rfl wn_f (fun g23 => d_loado (v := .agg ⟨[.int .i64 r_.f_Hits, .int .i64 r_.f_Window, .int .i64 r_.f_Misses]⟩) ty50 rfl (.there .here) rfl rfl rfl rfl) ?_
 obtain ⟨y25, hy26, he⟩ := Option.bind_eq_some_iff.1 he
 refine w_g (g := !(((y3.isSome || (decide (l.f_Age < 1))) || (decide (r_.f_Window < l.f_Age))) || (!decide ((l.f_Seen / 2 ^ shn .u32 l.f_Age) = 0)))) rfl rfl rfl wn_f (fun g24 => call_d (o_call co35 (vs := [.agg ⟨[.int .i64 l.f_Kind, .int .u32 l.f_Seen, .int .i64 l.f_Age, .int .i64 l.f_Missed]⟩, .agg ⟨[.int .i64 r_.f_Hits, .int .i64 r_.f_Window, .int .i64 r_.f_Misses]⟩]) (acons (cvt g24) (acons (cvt g24) (anil))) (life_Life_missed.calls k (l := (⟨l.f_Kind, l.f_Seen, l.f_Age, l.f_Missed⟩ : life_Life)) (r_ := (⟨r_.f_Hits, r_.f_Window, r_.f_Misses⟩ : life_Rule)) (gd_t g24 hy26)))) ?_
 refine w_g (g := !(((y3.isSome || (decide (l.f_Age < 1))) || (decide (r_.f_Window < l.f_Age))) || (!decide ((l.f_Seen / 2 ^ shn .u32 l.f_Age) = 0)))) rfl rfl rfl wn_f (fun g29 => d_not (b := y25) (cvt g29)) ?_
 refine w_d rfl (d_or' (b := (((y3.isSome || (decide (l.f_Age < 1))) || (decide (r_.f_Window < l.f_Age))) || (!decide ((l.f_Seen / 2 ^ shn .u32 l.f_Age) = 0)))) (p := (!y25)) rfl rfl rfl) ?_
 refine w_done ?_
 rcases its he with ⟨c30, he⟩ | ⟨c30, he⟩
 ·
  refine w_then rfl c30 ?_
  refine w_seq ?_
  refine w_region rfl ?_
  refine w_d rfl (d_iface (v := .int .i64 1) Try.underlying55 rfl rfl) ?_
  refine w_d rfl (d_assign (v := errV 55 (some 1)) rfl) ?_
  refine w_done ?_
  obtain rfl := Option.some.inj he
  refine w_return fn_31 rs_31 (.tmp (v := errV 55 (some 1)) rfl .nil) ?_
  exact ⟨⟨[_, _], rfl⟩, hle, rfl⟩
 ·
  refine w_else rfl (Bool.eq_false_iff.2 c30) ?_
  refine w_skip ?_
  refine w_seq ?_
  refine w_region rfl ?_
  refine w_d rfl (d_assign (v := errV 55 none) rfl) ?_
  refine w_done ?_
  obtain rfl := Option.some.inj he
  refine w_return fn_31 rs_31 (.tmp (v := errV 55 none) rfl .nil) ?_
  exact ⟨⟨[_, _], rfl⟩, hle, rfl⟩
/-! ### radome/life.Gone -/
noncomputable def life_Gone.C : Code := (Try.f23.body).getD .skip
def life_Gone.out (r : Bool) (H : Hp) (v : Value) : Prop := v = .bool r
abbrev life_Gone.R (H0 : Hp) (L : Items) (r : Bool) : Value → Hp → Items → Prop := fun v H' L' => (∃ p, L' = p ++ L) ∧ H0.le H' ∧ life_Gone.out r H' v
noncomputable def life_Gone.f (k : Nat) (l : life_Life) : Option Bool := some ((decide (l.f_Kind = 3)) || (decide (l.f_Kind = 4)))
theorem life_Gone.mono : ∀ k y0, LeO (life_Gone.f k y0) (life_Gone.f (k + 1) y0) := fun k _ => by unfold life_Gone.f; exact (LeO.refl _)
set_option maxRecDepth 100000 in
set_option maxHeartbeats 2000000 in
theorem life_Gone.calls (k : Nat) {H : Hp} {L : Items} {l : life_Life} {r : Bool} (he : life_Gone.f k l = some r) : Ct Try.prog 23 ⟨[.agg ⟨[.int .i64 l.f_Kind, .int .u32 l.f_Seen, .int .i64 l.f_Age, .int .i64 l.f_Missed]⟩]⟩ H L (fun v H' L' => L = L' ∧ H = H' ∧ v = .bool r) := by
 refine ct_outs (O := life_Gone.out r) (fun _ _ h => h) ?_
 have hle : H.le H := .refl _
 unfold life_Gone.f at he
 refine ct_enter (args := [.agg ⟨[.int .i64 l.f_Kind, .int .u32 l.f_Seen, .int .i64 l.f_Age, .int .i64 l.f_Missed]⟩]) fn_23 rfl nt_23 rfl ?_
 refine w_seq ?_
 refine w_region rfl ?_
 refine w_a rfl (o_box (v := .agg ⟨[.int .i64 l.f_Kind, .int .u32 l.f_Seen, .int .i64 l.f_Age, .int .i64 l.f_Missed]⟩) rfl rfl) ?_
 rintro _ _ _ ⟨b1, rfl, rfl, rfl⟩
 refine w_d rfl (d_assign (v := .bool false) rfl) ?_
 refine w_done ?_
 refine w_seq ?_
 refine w_region rfl ?_
 refine w_d rfl (d_fld (o' := 0) Try.underlying47 rfl sz3 rfl rfl rfl) ?_
 refine w_d rfl (d_loado (v := .int .i64 l.f_Kind) ty3 rfl .here rfl rfl rfl rfl) ?_
 refine w_d rfl (d_eql rfl rfl) ?_
 refine w_d rfl (d_move (v := .bool (decide (l.f_Kind = 3))) rfl) ?_
 refine w_g (g := !(decide (l.f_Kind = 3))) rfl rfl rfl wn_f (fun g2 => d_fld (o' := 0) Try.underlying47 rfl sz3 rfl rfl rfl) ?_
 refine w_g (g := !(decide (l.f_Kind = 3))) rfl rfl rfl wn_f (fun g3 => d_loado (v := .int .i64 l.f_Kind) ty3 (cvt g3) .here rfl rfl rfl rfl) ?_
 refine w_g (g := !(decide (l.f_Kind = 3))) rfl rfl rfl wn_f (fun g4 => d_eql (cvt g4) rfl) ?_
 refine w_d rfl (d_or' (b := (decide (l.f_Kind = 3))) (p := (decide (l.f_Kind = 4))) rfl rfl rfl) ?_
 refine w_d rfl (d_assign (v := .bool ((decide (l.f_Kind = 3)) || (decide (l.f_Kind = 4)))) rfl) ?_
 refine w_done ?_
 obtain rfl := Option.some.inj he
 refine w_return fn_23 rs_23 (.tmp (v := .bool ((decide (l.f_Kind = 3)) || (decide (l.f_Kind = 4)))) rfl .nil) ?_
 exact ⟨⟨[_], rfl⟩, hle, rfl⟩
/-! ### math/bits.OnesCount32 -/
noncomputable def bits_OnesCount32.C : Code := (Try.f36.body).getD .skip
def bits_OnesCount32.out (r : Int) (H : Hp) (v : Value) : Prop := v = .int .i64 r
abbrev bits_OnesCount32.R (H0 : Hp) (L : Items) (r : Int) : Value → Hp → Items → Prop := fun v H' L' => (∃ p, L' = p ++ L) ∧ H0.le H' ∧ bits_OnesCount32.out r H' v
noncomputable def bits_OnesCount32.f (k : Nat) (x : Int) : Option Int := if 0 ≤ x / 16777216 ∧ x / 16777216 < (str_0.size : Int) then (if 0 ≤ iand .u32 (x / 65536) 255 ∧ iand .u32 (x / 65536) 255 < (str_0.size : Int) then (if 0 ≤ iand .u32 (x / 256) 255 ∧ iand .u32 (x / 256) 255 < (str_0.size : Int) then (if 0 ≤ iand .u32 x 255 ∧ iand .u32 x 255 < (str_0.size : Int) then (some (w64 (((((((bt str_0 (x / 16777216)) + (bt str_0 (iand .u32 (x / 65536) 255))) % 256) + (bt str_0 (iand .u32 (x / 256) 255))) % 256) + (bt str_0 (iand .u32 x 255))) % 256))) else none) else none) else none) else none
theorem bits_OnesCount32.mono : ∀ k y0, LeO (bits_OnesCount32.f k y0) (bits_OnesCount32.f (k + 1) y0) := fun k _ => by unfold bits_OnesCount32.f; exact (LeO.ite (LeO.ite (LeO.ite (LeO.ite (LeO.refl _) (LeO.refl _)) (LeO.refl _)) (LeO.refl _)) (LeO.refl _))
set_option maxRecDepth 100000 in
set_option maxHeartbeats 2000000 in
theorem bits_OnesCount32.calls (k : Nat) {H : Hp} {L : Items} {x : Int} {r : Int} (he : bits_OnesCount32.f k x = some r) : Ct Try.prog 36 ⟨[.int .u32 x]⟩ H L (fun v H' L' => L = L' ∧ H = H' ∧ v = .int .i64 r) := by
 refine ct_outs (O := bits_OnesCount32.out r) (fun _ _ h => h) ?_
 have hle : H.le H := .refl _
 unfold bits_OnesCount32.f at he
 refine ct_enter (args := [.int .u32 x]) fn_36 rfl nt_36 rfl ?_
 refine w_seq ?_
 refine w_region rfl ?_
 refine w_d rfl (d_assign (v := .int .i64 0) rfl) ?_
 refine w_done ?_
 refine w_seq ?_
 obtain ⟨c1, he⟩ := rq he
 obtain ⟨c2, he⟩ := rq he
 obtain ⟨c3, he⟩ := rq he
 obtain ⟨c4, he⟩ := rq he
 refine w_drawn (p := 16) (tl := [16, 17, 18]) [[], [(0, some 3)], [(1, some 4)], [], [(3, some 6)], [(4, some 7)], [(5, some 8)], [(2, some 5), (6, some 9)], [], [(8, some 11)], [(9, some 12)], [(10, some 13)], [(7, some 10), (11, some 14)], [], [(13, some 16)], [(14, some 17)]] [some 3, some 4, some 5, some 6, some 7, some 8, some 9, some 10, some 11, some 12, some 13, some 14, some 15, some 16, some 17, some 18] (fctF [.is (.int .u32 x), .is (.int .u32 (x / 16777216)), .is (.int .u8 (bt str_0 (x / 16777216))), .is (.int .u32 x), .is (.int .u32 (x / 65536)), .is (.int .u32 (iand .u32 (x / 65536) 255)), .is (.int .u8 (bt str_0 (iand .u32 (x / 65536) 255))), .is (.int .u8 (((bt str_0 (x / 16777216)) + (bt str_0 (iand .u32 (x / 65536) 255))) % 256)), .is (.int .u32 x), .is (.int .u32 (x / 256)), .is (.int .u32 (iand .u32 (x / 256) 255)), .is (.int .u8 (bt str_0 (iand .u32 (x / 256) 255))), .is (.int .u8 (((((bt str_0 (x / 16777216)) + (bt str_0 (iand .u32 (x / 65536) 255))) % 256) + (bt str_0 (iand .u32 (x / 256) 255))) % 256)), .is (.int .u32 x), .is (.int .u32 (iand .u32 x 255)), .is (.int .u8 (bt str_0 (iand .u32 x 255)))]) (fun m_ => L) (fun _ => none) mixed (by kernel_rfl) (by kernel_rfl) rfl (fct_mono (by kernel_rfl)) ⟨(by intro H' m_ hH hm_ hu_; refine depK_nil ?_; exact s_d (m_ 0) rfl (d_move (v := .int .u32 x) rfl) (by exact rfl) rfl), (by intro H' m_ hH hm_ hu_; rintro _ rfl; refine depK_nil ?_; exact s_d (m_ 1) rfl (d_shr (c := x / 16777216) rfl rfl (by decide) rfl) (by exact rfl) rfl), (by intro H' m_ hH hm_ hu_; rintro _ rfl; refine depK_nil ?_; exact s_d (m_ 2) rfl (d_bt Try.underlying9 rfl rfl c1) (by exact rfl) rfl), (by intro H' m_ hH hm_ hu_; refine depK_nil ?_; exact s_d (m_ 3) rfl (d_move (v := .int .u32 x) rfl) (by exact rfl) rfl), (by intro H' m_ hH hm_ hu_; rintro _ rfl; refine depK_nil ?_; exact s_d (m_ 4) rfl (d_shr (c := x / 65536) rfl rfl (by decide) rfl) (by exact rfl) rfl), (by intro H' m_ hH hm_ hu_; rintro _ rfl; refine depK_nil ?_; exact s_d (m_ 5) rfl (d_band rfl rfl) (by exact rfl) rfl), (by intro H' m_ hH hm_ hu_; rintro _ rfl; refine depK_nil ?_; exact s_d (m_ 6) rfl (d_bt Try.underlying9 rfl rfl c2) (by exact rfl) rfl), (by intro H' m_ hH hm_ hu_; rintro _ rfl _ rfl; refine depK_nil ?_; exact s_d (m_ 7) rfl (d_add (c := ((bt str_0 (x / 16777216)) + (bt str_0 (iand .u32 (x / 65536) 255))) % 256) rfl rfl rfl) (by exact rfl) rfl), (by intro H' m_ hH hm_ hu_; refine depK_nil ?_; exact s_d (m_ 8) rfl (d_move (v := .int .u32 x) rfl) (by exact rfl) rfl), (by intro H' m_ hH hm_ hu_; rintro _ rfl; refine depK_nil ?_; exact s_d (m_ 9) rfl (d_shr (c := x / 256) rfl rfl (by decide) rfl) (by exact rfl) rfl), (by intro H' m_ hH hm_ hu_; rintro _ rfl; refine depK_nil ?_; exact s_d (m_ 10) rfl (d_band rfl rfl) (by exact rfl) rfl), (by intro H' m_ hH hm_ hu_; rintro _ rfl; refine depK_nil ?_; exact s_d (m_ 11) rfl (d_bt Try.underlying9 rfl rfl c3) (by exact rfl) rfl), (by intro H' m_ hH hm_ hu_; rintro _ rfl _ rfl; refine depK_nil ?_; exact s_d (m_ 12) rfl (d_add (c := ((((bt str_0 (x / 16777216)) + (bt str_0 (iand .u32 (x / 65536) 255))) % 256) + (bt str_0 (iand .u32 (x / 256) 255))) % 256) rfl rfl rfl) (by exact rfl) rfl), (by intro H' m_ hH hm_ hu_; refine depK_nil ?_; exact s_d (m_ 13) rfl (d_move (v := .int .u32 x) rfl) (by exact rfl) rfl), (by intro H' m_ hH hm_ hu_; rintro _ rfl; refine depK_nil ?_; exact s_d (m_ 14) rfl (d_band rfl rfl) (by exact rfl) rfl), (by intro H' m_ hH hm_ hu_; rintro _ rfl; refine depK_nil ?_; exact s_d (m_ 15) rfl (d_bt Try.underlying9 rfl rfl c4) (by exact rfl) rfl), trivial⟩ ?_
 intro H5 e6
 rintro _ _ rfl _ _ rfl _ _ rfl _ _ rfl _ _ rfl _ _ rfl _ _ rfl _ _ rfl _ _ rfl _ _ rfl _ _ rfl _ _ rfl _ _ rfl _ _ rfl _ _ rfl _ _ rfl
 refine w_d rfl (d_add (c := ((((((bt str_0 (x / 16777216)) + (bt str_0 (iand .u32 (x / 65536) 255))) % 256) + (bt str_0 (iand .u32 (x / 256) 255))) % 256) + (bt str_0 (iand .u32 x 255))) % 256) rfl rfl rfl) ?_
 refine w_d rfl (d_conv (c := w64 (((((((bt str_0 (x / 16777216)) + (bt str_0 (iand .u32 (x / 65536) 255))) % 256) + (bt str_0 (iand .u32 (x / 256) 255))) % 256) + (bt str_0 (iand .u32 x 255))) % 256)) Try.underlying5 Try.underlying3 rfl rfl) ?_
 refine w_d rfl (d_assign (v := .int .i64 (w64 (((((((bt str_0 (x / 16777216)) + (bt str_0 (iand .u32 (x / 65536) 255))) % 256) + (bt str_0 (iand .u32 (x / 256) 255))) % 256) + (bt str_0 (iand .u32 x 255))) % 256))) rfl) ?_
 refine w_done ?_
 obtain rfl := Option.some.inj he
 refine w_return fn_36 rs_36 (.tmp (v := .int .i64 (w64 (((((((bt str_0 (x / 16777216)) + (bt str_0 (iand .u32 (x / 65536) 255))) % 256) + (bt str_0 (iand .u32 (x / 256) 255))) % 256) + (bt str_0 (iand .u32 x 255))) % 256))) rfl .nil) ?_
 exact ⟨⟨[], rfl⟩, hle.trans e6, rfl⟩
/-! ### (radome/life.Life).sure -/
noncomputable def life_Life_sure.C : Code := (Try.f37.body).getD .skip
def life_Life_sure.out (r : Int) (H : Hp) (v : Value) : Prop := v = .int .i64 r
abbrev life_Life_sure.R (H0 : Hp) (L : Items) (r : Int) : Value → Hp → Items → Prop := fun v H' L' => (∃ p, L' = p ++ L) ∧ H0.le H' ∧ life_Life_sure.out r H' v
noncomputable def life_Life_sure.f (k : Nat) (l : life_Life) (r_ : life_Rule) : Option Int := if l.f_Missed = 0 then (some (1)) else (if l.f_Missed = r_.f_Misses then (some (4)) else (some (2)))
theorem life_Life_sure.mono : ∀ k y0 y1, LeO (life_Life_sure.f k y0 y1) (life_Life_sure.f (k + 1) y0 y1) := fun k _ _ => by unfold life_Life_sure.f; exact (LeO.ite (LeO.refl _) (LeO.ite (LeO.refl _) (LeO.refl _)))
set_option maxRecDepth 100000 in
set_option maxHeartbeats 2000000 in
theorem life_Life_sure.calls (k : Nat) {H : Hp} {L : Items} {l : life_Life} {r_ : life_Rule} {r : Int} (he : life_Life_sure.f k l r_ = some r) : Ct Try.prog 37 ⟨[.agg ⟨[.int .i64 l.f_Kind, .int .u32 l.f_Seen, .int .i64 l.f_Age, .int .i64 l.f_Missed]⟩, .agg ⟨[.int .i64 r_.f_Hits, .int .i64 r_.f_Window, .int .i64 r_.f_Misses]⟩]⟩ H L (fun v H' L' => L = L' ∧ H = H' ∧ v = .int .i64 r) := by
 refine ct_outs (O := life_Life_sure.out r) (fun _ _ h => h) ?_
 have hle : H.le H := .refl _
 unfold life_Life_sure.f at he
 refine ct_enter (args := [.agg ⟨[.int .i64 l.f_Kind, .int .u32 l.f_Seen, .int .i64 l.f_Age, .int .i64 l.f_Missed]⟩, .agg ⟨[.int .i64 r_.f_Hits, .int .i64 r_.f_Window, .int .i64 r_.f_Misses]⟩]) fn_37 rfl nt_37 rfl ?_
 refine w_seq ?_
 refine w_region rfl ?_
 refine w_a rfl (o_box (v := .agg ⟨[.int .i64 l.f_Kind, .int .u32 l.f_Seen, .int .i64 l.f_Age, .int .i64 l.f_Missed]⟩) rfl rfl) ?_
 rintro _ _ _ ⟨b1, rfl, rfl, rfl⟩
 refine w_a rfl (o_box (v := .agg ⟨[.int .i64 r_.f_Hits, .int .i64 r_.f_Window, .int .i64 r_.f_Misses]⟩) rfl rfl) ?_
 rintro _ _ _ ⟨b2, rfl, rfl, rfl⟩
 refine w_d rfl (d_assign (v := .int .i64 0) rfl) ?_
 refine w_done ?_
 refine w_seq ?_
 refine w_seq ?_
 refine w_region rfl ?_
 refine w_d rfl (d_fld (o' := 3) Try.underlying47 rfl sz3 rfl rfl rfl) ?_
 refine w_d rfl (d_loado (v := .int .i64 l.f_Missed) ty3 rfl (.there .here) rfl rfl rfl rfl) ?_
 refine w_done ?_
 refine w_block ?_
 refine w_seq ?_
 refine w_region rfl ?_
 refine w_d rfl (d_eql rfl rfl) ?_
 refine w_d rfl (d_assign (v := .bool (decide (l.f_Missed = 0))) rfl) ?_
 refine w_done ?_
 rcases its he with ⟨c3, he⟩ | ⟨c3, he⟩
 ·
  refine w_then rfl (decide_eq_true c3) ?_
  refine w_seq ?_
  refine w_region rfl ?_
  refine w_d rfl (d_assign (v := .int .i64 1) rfl) ?_
  refine w_done ?_
  obtain rfl := Option.some.inj he
  refine w_return fn_37 rs_37 (.tmp (v := .int .i64 1) rfl .nil) ?_
  exact ⟨⟨[_, _], rfl⟩, hle, rfl⟩
 ·
  refine w_else rfl (decide_eq_false c3) ?_
  refine w_seq ?_
  refine w_region rfl ?_
  refine w_d rfl (d_fld (o' := 2) Try.underlying50 rfl sz3 rfl rfl rfl) ?_
  refine w_d rfl (d_loado (v := .int .i64 r_.f_Misses) ty3 rfl .here rfl rfl rfl rfl) ?_
  refine w_d rfl (d_eql rfl rfl) ?_
  refine w_d rfl (d_assign (v := .bool (decide (l.f_Missed = r_.f_Misses))) rfl) ?_
  refine w_done ?_
  rcases its he with ⟨c4, he⟩ | ⟨c4, he⟩
  ·
   refine w_then rfl (decide_eq_true c4) ?_
   refine w_seq ?_
   refine w_region rfl ?_
   refine w_d rfl (d_assign (v := .int .i64 4) rfl) ?_
   refine w_done ?_
   obtain rfl := Option.some.inj he
   refine w_return fn_37 rs_37 (.tmp (v := .int .i64 4) rfl .nil) ?_
   exact ⟨⟨[_, _], rfl⟩, hle, rfl⟩
  ·
   refine w_else rfl (decide_eq_false c4) ?_
   refine w_skip ?_
   refine w_inBlock ?_
   refine w_seq ?_
   refine w_region rfl ?_
   refine w_d rfl (d_assign (v := .int .i64 2) rfl) ?_
   refine w_done ?_
   obtain rfl := Option.some.inj he
   refine w_return fn_37 rs_37 (.tmp (v := .int .i64 2) rfl .nil) ?_
   exact ⟨⟨[_, _], rfl⟩, hle, rfl⟩
/-! ### (radome/life.Life).kind -/
noncomputable def life_Life_kind.C : Code := (Try.f32.body).getD .skip
def life_Life_kind.out (r : Int) (H : Hp) (v : Value) : Prop := v = .int .i64 r
abbrev life_Life_kind.R (H0 : Hp) (L : Items) (r : Int) : Value → Hp → Items → Prop := fun v H' L' => (∃ p, L' = p ++ L) ∧ H0.le H' ∧ life_Life_kind.out r H' v
noncomputable def life_Life_kind.f (k : Nat) (l : life_Life) (r_ : life_Rule) : Option Int := (gd (!(!decide (l.f_Kind = 0))) (bits_OnesCount32.f k l.f_Seen) (0)).bind fun y6 => if ((!decide (l.f_Kind = 0)) || (decide (r_.f_Hits ≤ y6))) = true then ((life_Life_sure.f k (⟨l.f_Kind, l.f_Seen, l.f_Age, l.f_Missed⟩ : life_Life) (⟨r_.f_Hits, r_.f_Window, r_.f_Misses⟩ : life_Rule)).bind fun y16 => some (y16)) else (if ((decide (l.f_Age = r_.f_Window)) || (decide (l.f_Missed = r_.f_Misses))) = true then (some (3)) else (some (0)))
theorem life_Life_kind.mono : ∀ k y0 y1, LeO (life_Life_kind.f k y0 y1) (life_Life_kind.f (k + 1) y0 y1) := fun k _ _ => by unfold life_Life_kind.f; exact (LeO.bind (LeO.gd (bits_OnesCount32.mono k _)) fun _ => LeO.ite (LeO.bind (life_Life_sure.mono k _ _) fun _ => LeO.refl _) (LeO.ite (LeO.refl _) (LeO.refl _)))
set_option maxRecDepth 100000 in
set_option maxHeartbeats 2000000 in
theorem life_Life_kind.calls (k : Nat) {H : Hp} {L : Items} {l : life_Life} {r_ : life_Rule} {r : Int} (he : life_Life_kind.f k l r_ = some r) : Ct Try.prog 32 ⟨[.agg ⟨[.int .i64 l.f_Kind, .int .u32 l.f_Seen, .int .i64 l.f_Age, .int .i64 l.f_Missed]⟩, .agg ⟨[.int .i64 r_.f_Hits, .int .i64 r_.f_Window, .int .i64 r_.f_Misses]⟩]⟩ H L (fun v H' L' => L = L' ∧ H = H' ∧ v = .int .i64 r) := by
 refine ct_outs (O := life_Life_kind.out r) (fun _ _ h => h) ?_
 have hle : H.le H := .refl _
 unfold life_Life_kind.f at he
 refine ct_enter (args := [.agg ⟨[.int .i64 l.f_Kind, .int .u32 l.f_Seen, .int .i64 l.f_Age, .int .i64 l.f_Missed]⟩, .agg ⟨[.int .i64 r_.f_Hits, .int .i64 r_.f_Window, .int .i64 r_.f_Misses]⟩]) fn_32 rfl nt_32 rfl ?_
 refine w_seq ?_
 refine w_region rfl ?_
 refine w_a rfl (o_box (v := .agg ⟨[.int .i64 l.f_Kind, .int .u32 l.f_Seen, .int .i64 l.f_Age, .int .i64 l.f_Missed]⟩) rfl rfl) ?_
 rintro _ _ _ ⟨b1, rfl, rfl, rfl⟩
 refine w_a rfl (o_box (v := .agg ⟨[.int .i64 r_.f_Hits, .int .i64 r_.f_Window, .int .i64 r_.f_Misses]⟩) rfl rfl) ?_
 rintro _ _ _ ⟨b2, rfl, rfl, rfl⟩
 refine w_d rfl (d_assign (v := .int .i64 0) rfl) ?_
 refine w_done ?_
 refine w_seq ?_
 refine w_block ?_
 refine w_seq ?_
 obtain ⟨y6, hy7, he⟩ := Option.bind_eq_some_iff.1 he
 refine w_drawn (p := 9) (tl := [9, 10, 11]) [[], [(0, some 6)], [(1, some 7)], [(2, some 8)], [(3, some 9)], [(3, some 9), (4, some 10)], [(3, some 9), (5, some 11)], [(3, some 9)], [(3, some 9), (7, some 13)]] [some 6, some 7, some 8, some 9, some 10, some 11, some 12, some 13, some 14] (fctF [.is (.pointer (some ⟨b1, 0, none⟩)), .is (.int .i64 l.f_Kind), .is (.bool (!decide (l.f_Kind = 0))), .is (.bool (!decide (l.f_Kind = 0))), .is (cond (!(!decide (l.f_Kind = 0))) (.pointer (some ⟨b1, 1, none⟩)) undef), .is (cond (!(!decide (l.f_Kind = 0))) (.int .u32 l.f_Seen) undef), .is (cond (!(!decide (l.f_Kind = 0))) (.int .i64 y6) undef), .is (cond (!(!decide (l.f_Kind = 0))) (.pointer (some ⟨b2, 0, none⟩)) undef), .is (cond (!(!decide (l.f_Kind = 0))) (.int .i64 r_.f_Hits) undef)]) (fun m_ => some (b2, .cells ⟨[.int .i64 r_.f_Hits, .int .i64 r_.f_Window, .int .i64 r_.f_Misses]⟩ 50 (0, 0)) :: some (b1, .cells ⟨[.int .i64 l.f_Kind, .int .u32 l.f_Seen, .int .i64 l.f_Age, .int .i64 l.f_Missed]⟩ 47 (0, 0)) :: L) (fun _ => none) mixed (by kernel_rfl) (by kernel_rfl) rfl (fct_mono (by kernel_rfl)) ⟨(by intro H' m_ hH hm_ hu_; refine depK_nil ?_; exact s_d (m_ 0) rfl (d_fld (o' := 0) Try.underlying47 rfl sz3 rfl rfl rfl) (by exact rfl) rfl), (by intro H' m_ hH hm_ hu_; rintro _ rfl; refine depK_nil ?_; exact s_d (m_ 1) rfl (d_loado (v := .int .i64 l.f_Kind) ty3 rfl (.there .here) rfl rfl rfl rfl) (by exact rfl) rfl), (by intro H' m_ hH hm_ hu_; rintro _ rfl; refine depK_nil ?_; exact s_d (m_ 2) rfl (d_neq rfl rfl) (by exact rfl) rfl), (by intro H' m_ hH hm_ hu_; rintro _ rfl; refine depK_nil ?_; exact s_d (m_ 3) rfl (d_move (v := .bool (!decide (l.f_Kind = 0))) rfl) (by exact rfl) rfl), (by intro H' m_ hH hm_ hu_; rintro _ rfl; refine depK_nil ?_; exact s_g (g := !(!decide (l.f_Kind = 0))) (m_ 4) rfl rfl rfl wn_f (fun g3 => d_fld (o' := 1) Try.underlying47 rfl sz29 rfl rfl rfl) rfl (by exact fun g_ => cvt g_) (by exact fun g_ => cnt g_)), (by intro H' m_ hH hm_ hu_; rintro _ rfl _ rfl; refine depK_nil ?_; exact s_g (g := !(!decide (l.f_Kind = 0))) (m_ 5) rfl rfl rfl wn_f (fun g4 => d_loado (v := .int .u32 l.f_Seen) ty29 (cvt g4) (.there .here) rfl rfl rfl rfl) rfl (by exact fun g_ => cvt g_) (by exact fun g_ => cnt g_)), (by intro H' m_ hH hm_ hu_; rintro _ rfl _ rfl; refine depK_nil ?_; exact s_g (g := !(!decide (l.f_Kind = 0))) (m_ 6) rfl rfl rfl wn_f (fun g5 => call_d (o_call co36 (vs := [.int .u32 l.f_Seen]) (acons (cvt g5) (anil)) (bits_OnesCount32.calls k (gd_t g5 hy7)))) rfl (by exact fun g_ => cvt g_) (by exact fun g_ => cnt g_)), (by intro H' m_ hH hm_ hu_; rintro _ rfl; refine depK_nil ?_; exact s_g (g := !(!decide (l.f_Kind = 0))) (m_ 7) rfl rfl rfl wn_f (fun g10 => d_fld (o' := 0) Try.underlying50 rfl sz3 rfl rfl rfl) rfl (by exact fun g_ => cvt g_) (by exact fun g_ => cnt g_)), (by intro H' m_ hH hm_ hu_; rintro _ rfl _ rfl; refine depK_nil ?_; exact s_g (g := !(!decide (l.f_Kind = 0))) (m_ 8) rfl rfl rfl wn_f (fun g11 => d_loado (v := .int .i64 r_.f_Hits) ty3 (cvt g11) .here rfl rfl rfl rfl) rfl (by exact fun g_ => cvt g_) (by exact fun g_ => cnt g_)), trivial⟩ ?_
 intro H12 e13
 rintro _ _ rfl _ _ rfl _ _ rfl _ _ rfl _ _ rfl _ _ rfl _ _ rfl _ _ rfl _ _ rfl
 refine w_g (g := !(!decide (l.f_Kind = 0))) rfl rfl rfl wn_f (fun g14 => d_geq (cvt g14) (cvt g14)) ?_
 refine w_d rfl (d_or' (b := (!decide (l.f_Kind = 0))) (p := (decide (r_.f_Hits ≤ y6))) rfl rfl rfl) ?_
 refine w_d rfl (d_assign (v := .bool ((!decide (l.f_Kind = 0)) || (decide (r_.f_Hits ≤ y6)))) rfl) ?_
 refine w_done ?_
 rcases its he with ⟨c15, he⟩ | ⟨c15, he⟩
 ·
  refine w_then rfl c15 ?_
  refine w_seq ?_
  refine w_region rfl ?_
  refine w_d rfl (d_loado (v := .agg ⟨[.int .i64 l.f_Kind, .int .u32 l.f_Seen, .int .i64 l.f_Age, .int .i64 l.f_Missed]⟩) ty47 rfl (.there .here) rfl rfl rfl rfl) ?_
  refine w_d rfl (d_loado (v := .agg ⟨[.int .i64 r_.f_Hits, .int .i64 r_.f_Window, .int .i64 r_.f_Misses]⟩) ty50 rfl .here rfl rfl rfl rfl) ?_
  obtain ⟨y16, hy17, he⟩ := Option.bind_eq_some_iff.1 he
  refine w_d rfl (call_d (o_call co37 (vs := [.agg ⟨[.int .i64 l.f_Kind, .int .u32 l.f_Seen, .int .i64 l.f_Age, .int .i64 l.f_Missed]⟩, .agg ⟨[.int .i64 r_.f_Hits, .int .i64 r_.f_Window, .int .i64 r_.f_Misses]⟩]) rfl (life_Life_sure.calls k (l := (⟨l.f_Kind, l.f_Seen, l.f_Age, l.f_Missed⟩ : life_Life)) (r_ := (⟨r_.f_Hits, r_.f_Window, r_.f_Misses⟩ : life_Rule)) hy17))) ?_
  refine w_d rfl (d_assign (v := .int .i64 y16) rfl) ?_
  refine w_done ?_
  obtain rfl := Option.some.inj he
  refine w_return fn_32 rs_32 (.tmp (v := .int .i64 y16) rfl .nil) ?_
  exact ⟨⟨[_, _], rfl⟩, hle.trans e13, rfl⟩
 ·
  refine w_else rfl (Bool.eq_false_iff.2 c15) ?_
  refine w_seq ?_
  refine w_region rfl ?_
  refine w_d rfl (d_fld (o' := 2) Try.underlying47 rfl sz3 rfl rfl rfl) ?_
  refine w_d rfl (d_loado (v := .int .i64 l.f_Age) ty3 rfl (.there .here) rfl rfl rfl rfl) ?_
  refine w_d rfl (d_fld (o' := 1) Try.underlying50 rfl sz3 rfl rfl rfl) ?_
  refine w_d rfl (d_loado (v := .int .i64 r_.f_Window) ty3 rfl .here rfl rfl rfl rfl) ?_
  refine w_d rfl (d_eql rfl rfl) ?_
  refine w_d rfl (d_move (v := .bool (decide (l.f_Age = r_.f_Window))) rfl) ?_
  refine w_g (g := !(decide (l.f_Age = r_.f_Window))) rfl rfl rfl wn_f (fun g20 => d_fld (o' := 3) Try.underlying47 rfl sz3 rfl rfl rfl) ?_
  refine w_g (g := !(decide (l.f_Age = r_.f_Window))) rfl rfl rfl wn_f (fun g21 => d_loado (v := .int .i64 l.f_Missed) ty3 (cvt g21) (.there .here) rfl rfl rfl rfl) ?_
  refine w_g (g := !(decide (l.f_Age = r_.f_Window))) rfl rfl rfl wn_f (fun g22 => d_fld (o' := 2) Try.underlying50 rfl sz3 rfl rfl rfl) ?_
  refine w_g (g := !(decide (l.f_Age = r_.f_Window))) rfl rfl rfl wn_f (fun g23 => d_loado (v := .int .i64 r_.f_Misses) ty3 (cvt g23) .here rfl rfl rfl rfl) ?_
  refine w_g (g := !(decide (l.f_Age = r_.f_Window))) rfl rfl rfl wn_f (fun g24 => d_eql (cvt g24) (cvt g24)) ?_
  refine w_d rfl (d_or' (b := (decide (l.f_Age = r_.f_Window))) (p := (decide (l.f_Missed = r_.f_Misses))) rfl rfl rfl) ?_
  refine w_d rfl (d_assign (v := .bool ((decide (l.f_Age = r_.f_Window)) || (decide (l.f_Missed = r_.f_Misses)))) rfl) ?_
  refine w_done ?_
  rcases its he with ⟨c25, he⟩ | ⟨c25, he⟩
  ·
   refine w_then rfl c25 ?_
   refine w_seq ?_
   refine w_region rfl ?_
   refine w_d rfl (d_assign (v := .int .i64 3) rfl) ?_
   refine w_done ?_
   obtain rfl := Option.some.inj he
   refine w_return fn_32 rs_32 (.tmp (v := .int .i64 3) rfl .nil) ?_
   exact ⟨⟨[_, _], rfl⟩, hle.trans e13, rfl⟩
  ·
   refine w_else rfl (Bool.eq_false_iff.2 c25) ?_
   refine w_skip ?_
   refine w_inBlock ?_
   refine w_seq ?_
   refine w_region rfl ?_
   refine w_d rfl (d_assign (v := .int .i64 0) rfl) ?_
   refine w_done ?_
   obtain rfl := Option.some.inj he
   refine w_return fn_32 rs_32 (.tmp (v := .int .i64 0) rfl .nil) ?_
   exact ⟨⟨[_, _], rfl⟩, hle.trans e13, rfl⟩
/-! ### radome/life.Next -/
noncomputable def life_Next.C : Code := (Try.f24.body).getD .skip
def life_Next.out (r : life_Life × (Option Int)) (H : Hp) (v : Value) : Prop := v = .tuple ⟨[.agg ⟨[.int .i64 r.1.f_Kind, .int .u32 r.1.f_Seen, .int .i64 r.1.f_Age, .int .i64 r.1.f_Missed]⟩, errV 55 r.2]⟩
abbrev life_Next.R (H0 : Hp) (L : Items) (r : life_Life × (Option Int)) : Value → Hp → Items → Prop := fun v H' L' => (∃ p, L' = p ++ L) ∧ H0.le H' ∧ life_Next.out r H' v
noncomputable def life_Next.j1 (k : Nat)  (r_0 : Int) (r_1 : Int) (r_2 : Int) (l_0 : Int) (l_1 : Int) (l_2 : Int) (l_3 : Int) : Option (life_Life × (Option Int)) := (life_Life_kind.f k (⟨l_0, l_1, l_2, l_3⟩ : life_Life) (⟨r_0, r_1, r_2⟩ : life_Rule)).bind fun y18 => some ((⟨y18, l_1, l_2, l_3⟩ : life_Life), none)
noncomputable def life_Next.f (k : Nat) (r_ : life_Rule) (l : life_Life) (hit : Bool) : Option (life_Life × (Option Int)) := (life_May.f k (⟨r_.f_Hits, r_.f_Window, r_.f_Misses⟩ : life_Rule) (⟨l.f_Kind, l.f_Seen, l.f_Age, l.f_Missed⟩ : life_Life)).bind fun y4 => if y4.isSome = true then (some ((⟨0, 0, 0, 0⟩ : life_Life), y4)) else ((life_Gone.f k (⟨l.f_Kind, l.f_Seen, l.f_Age, l.f_Missed⟩ : life_Life)).bind fun y9 => if y9 = true then (some ((⟨0, 0, 0, 0⟩ : life_Life), some 14)) else (if 0 ≤ r_.f_Window then (if hit = true then (life_Next.j1 k r_.f_Hits r_.f_Window r_.f_Misses l.f_Kind (ior .u32 (iand .u32 ((l.f_Seen * 2) % 4294967296) ((((1 * 2 ^ shn .u32 r_.f_Window) % 4294967296) - 1) % 4294967296)) 1) (min (w64 (l.f_Age + 1)) r_.f_Window) 0) else (life_Next.j1 k r_.f_Hits r_.f_Window r_.f_Misses l.f_Kind (iand .u32 ((l.f_Seen * 2) % 4294967296) ((((1 * 2 ^ shn .u32 r_.f_Window) % 4294967296) - 1) % 4294967296)) (min (w64 (l.f_Age + 1)) r_.f_Window) (min (w64 (l.f_Missed + 1)) r_.f_Misses))) else none))
theorem life_Next.j1_mono {k : Nat} : ∀ y0 y1 y2 y3 y4 y5 y6, LeO (life_Next.j1 k y0 y1 y2 y3 y4 y5 y6) (life_Next.j1 (k + 1) y0 y1 y2 y3 y4 y5 y6) := fun _ _ _ _ _ _ _ => (LeO.bind (life_Life_kind.mono k _ _) fun _ => LeO.refl _)
theorem life_Next.mono : ∀ k y0 y1 y2, LeO (life_Next.f k y0 y1 y2) (life_Next.f (k + 1) y0 y1 y2) := fun k _ _ _ => by unfold life_Next.f; exact (LeO.bind (life_May.mono k _ _) fun _ => LeO.ite (LeO.refl _) (LeO.bind (life_Gone.mono k _) fun _ => LeO.ite (LeO.refl _) (LeO.ite (LeO.ite (life_Next.j1_mono (k := k)  _ _ _ _ _ _ _) (life_Next.j1_mono (k := k)  _ _ _ _ _ _ _)) (LeO.refl _))))
noncomputable def life_Next.Kj1 : List Item := .code (seqR (seqR (seqR (seqR (seqR (seqR (seqR life_Next.C))))))) :: []
set_option maxRecDepth 100000 in
set_option maxHeartbeats 2000000 in
theorem life_Next.j1_ok {k : Nat} {H0 H : Hp} {L : Items} {r : life_Life × (Option Int)} {jk_ : Nat → Value} {r_0 : Int} {r_1 : Int} {r_2 : Int} {l_0 : Int} {l_1 : Int} {l_2 : Int} {l_3 : Int} {b_r_ : Nat} {b_l : Nat} {b_t6 : Nat} (hle : H0.le H) (he : life_Next.j1 k r_0 r_1 r_2 l_0 l_1 l_2 l_3 = some r) : Wp Try.prog 24 54 life_Next.Kj1 (upd (upd (upd (upd jk_ 3 (.pointer (some ⟨b_r_, 0, none⟩))) 4 (.pointer (some ⟨b_l, 0, none⟩))) 6 (.pointer (some ⟨b_t6, 0, none⟩))) 7 (errV 55 none)) H (some (b_t6, .cells ⟨[.int .i64 0, .int .u32 0, .int .i64 0, .int .i64 0]⟩ 47 (0, 0)) :: some (b_l, .cells ⟨[.int .i64 l_0, .int .u32 l_1, .int .i64 l_2, .int .i64 l_3]⟩ 47 (0, 0)) :: some (b_r_, .cells ⟨[.int .i64 r_0, .int .i64 r_1, .int .i64 r_2]⟩ 50 (0, 0)) :: L) (life_Next.R H0 L r) := by
 unfold life_Next.j1 at he
 unfold life_Next.Kj1
 refine w_seq ?_
 refine w_region rfl ?_
 refine w_d rfl (d_loado (v := .agg ⟨[.int .i64 l_0, .int .u32 l_1, .int .i64 l_2, .int .i64 l_3]⟩) ty47 rfl (.there .here) rfl rfl rfl rfl) ?_
 refine w_d rfl (d_loado (v := .agg ⟨[.int .i64 r_0, .int .i64 r_1, .int .i64 r_2]⟩) ty50 rfl (.there (.there .here)) rfl rfl rfl rfl) ?_
 obtain ⟨y18, hy19, he⟩ := Option.bind_eq_some_iff.1 he
 refine w_d rfl (call_d (o_call co32 (vs := [.agg ⟨[.int .i64 l_0, .int .u32 l_1, .int .i64 l_2, .int .i64 l_3]⟩, .agg ⟨[.int .i64 r_0, .int .i64 r_1, .int .i64 r_2]⟩]) rfl (life_Life_kind.calls k (l := (⟨l_0, l_1, l_2, l_3⟩ : life_Life)) (r_ := (⟨r_0, r_1, r_2⟩ : life_Rule)) hy19))) ?_
 refine w_d rfl (d_fld (o' := 0) Try.underlying47 rfl sz3 rfl rfl rfl) ?_
 refine w_a0 rfl (o_store (v := .int .i64 y18) sz3 rfl rfl rfl rfl (one_cons rfl one_nil) (.there .here) (.here .done)) ?_
 rintro _ _ _ ⟨rfl, rfl, rfl⟩
 refine w_done ?_
 refine w_seq ?_
 refine w_region rfl ?_
 refine w_d rfl (d_loado (v := .agg ⟨[.int .i64 y18, .int .u32 l_1, .int .i64 l_2, .int .i64 l_3]⟩) ty47 rfl (.there .here) rfl rfl rfl rfl) ?_
 refine w_a0 rfl (o_store (v := .agg ⟨[.int .i64 y18, .int .u32 l_1, .int .i64 l_2, .int .i64 l_3]⟩) sz47 rfl rfl rfl rfl (one_cons rfl (one_cons rfl (one_cons rfl (one_cons rfl one_nil)))) .here (.here (.here (.here (.here .done))))) ?_
 rintro _ _ _ ⟨rfl, rfl, rfl⟩
 refine w_d rfl (d_assign (v := errV 55 none) rfl) ?_
 refine w_done ?_
 obtain rfl := Option.some.inj he
 refine w_return fn_24 rs_24 (.box (v := .agg ⟨[.int .i64 y18, .int .u32 l_1, .int .i64 l_2, .int .i64 l_3]⟩) rfl ty47 rfl rfl .here rfl (.tmp (v := errV 55 none) rfl .nil)) ?_
 exact ⟨⟨[_, _, _], rfl⟩, hle, rfl⟩
set_option maxRecDepth 100000 in
set_option maxHeartbeats 2000000 in
theorem life_Next.calls (k : Nat) {H : Hp} {L : Items} {r_ : life_Rule} {l : life_Life} {hit : Bool} {r : life_Life × (Option Int)} (he : life_Next.f k r_ l hit = some r) : Ct Try.prog 24 ⟨[.agg ⟨[.int .i64 r_.f_Hits, .int .i64 r_.f_Window, .int .i64 r_.f_Misses]⟩, .agg ⟨[.int .i64 l.f_Kind, .int .u32 l.f_Seen, .int .i64 l.f_Age, .int .i64 l.f_Missed]⟩, .bool hit]⟩ H L (fun v H' L' => L = L' ∧ H = H' ∧ v = .tuple ⟨[.agg ⟨[.int .i64 r.1.f_Kind, .int .u32 r.1.f_Seen, .int .i64 r.1.f_Age, .int .i64 r.1.f_Missed]⟩, errV 55 r.2]⟩) := by
 refine ct_outs (O := life_Next.out r) (fun _ _ h => h) ?_
 have hle : H.le H := .refl _
 unfold life_Next.f at he
 refine ct_enter (args := [.agg ⟨[.int .i64 r_.f_Hits, .int .i64 r_.f_Window, .int .i64 r_.f_Misses]⟩, .agg ⟨[.int .i64 l.f_Kind, .int .u32 l.f_Seen, .int .i64 l.f_Age, .int .i64 l.f_Missed]⟩, .bool hit]) fn_24 rfl nt_24 rfl ?_
 refine w_seq ?_
 refine w_region rfl ?_
 refine w_a rfl (o_box (v := .agg ⟨[.int .i64 r_.f_Hits, .int .i64 r_.f_Window, .int .i64 r_.f_Misses]⟩) rfl rfl) ?_
 rintro _ _ _ ⟨b1, rfl, rfl, rfl⟩
 refine w_a rfl (o_box (v := .agg ⟨[.int .i64 l.f_Kind, .int .u32 l.f_Seen, .int .i64 l.f_Age, .int .i64 l.f_Missed]⟩) rfl rfl) ?_
 rintro _ _ _ ⟨b2, rfl, rfl, rfl⟩
 refine w_a rfl (o_alloc zr47 rfl) ?_
 rintro _ _ _ ⟨b3, rfl, rfl, rfl⟩
 refine w_d rfl (d_assign (v := errV 55 none) rfl) ?_
 refine w_done ?_
 refine w_seq ?_
 refine w_seq ?_
 refine w_region rfl ?_
 refine w_d rfl (d_loado (v := .agg ⟨[.int .i64 r_.f_Hits, .int .i64 r_.f_Window, .int .i64 r_.f_Misses]⟩) ty50 rfl (.there (.there .here)) rfl rfl rfl rfl) ?_
 refine w_d rfl (d_loado (v := .agg ⟨[.int .i64 l.f_Kind, .int .u32 l.f_Seen, .int .i64 l.f_Age, .int .i64 l.f_Missed]⟩) ty47 rfl (.there .here) rfl rfl rfl rfl) ?_
 obtain ⟨y4, hy5, he⟩ := Option.bind_eq_some_iff.1 he
 refine w_d rfl (call_d (o_call co31 (vs := [.agg ⟨[.int .i64 r_.f_Hits, .int .i64 r_.f_Window, .int .i64 r_.f_Misses]⟩, .agg ⟨[.int .i64 l.f_Kind, .int .u32 l.f_Seen, .int .i64 l.f_Age, .int .i64 l.f_Missed]⟩]) rfl (life_May.calls k (r_ := (⟨r_.f_Hits, r_.f_Window, r_.f_Misses⟩ : life_Rule)) (l := (⟨l.f_Kind, l.f_Seen, l.f_Age, l.f_Missed⟩ : life_Life)) hy5))) ?_
 refine w_d rfl (d_assign (v := errV 55 y4) rfl) ?_
 refine w_done ?_
 refine w_seq ?_
 refine w_region rfl ?_
 refine w_d rfl (d_move (v := errV 55 y4) rfl) ?_
 refine w_d rfl (d_nenil (e := y4) Try.underlying24 rfl) ?_
 refine w_done ?_
 rcases its he with ⟨c8, he⟩ | ⟨c8, he⟩
 ·
  refine w_then rfl c8 ?_
  refine w_seq ?_
  refine w_region rfl ?_
  refine w_d rfl (d_build (cs' := [.int .i64 0, .int .u32 0, .int .i64 0, .int .i64 0]) Try.underlying47 zr47 rfl (by kernel_rfl) (parts := []) rfl .nil) ?_
  refine w_d rfl (d_move (v := errV 55 y4) rfl) ?_
  refine w_a0 rfl (o_store (v := .agg ⟨[.int .i64 0, .int .u32 0, .int .i64 0, .int .i64 0]⟩) sz47 rfl rfl rfl rfl (one_cons rfl (one_cons rfl (one_cons rfl (one_cons rfl one_nil)))) .here (.here (.here (.here (.here .done))))) ?_
  rintro _ _ _ ⟨rfl, rfl, rfl⟩
  refine w_d rfl (d_assign (v := errV 55 y4) rfl) ?_
  refine w_done ?_
  obtain rfl := Option.some.inj he
  refine w_return fn_24 rs_24 (.box (v := .agg ⟨[.int .i64 0, .int .u32 0, .int .i64 0, .int .i64 0]⟩) rfl ty47 rfl rfl .here rfl (.tmp (v := errV 55 y4) rfl .nil)) ?_
  exact ⟨⟨[_, _, _], rfl⟩, hle, rfl⟩
 ·
  refine w_else rfl (Bool.eq_false_iff.2 c8) ?_
  refine w_skip ?_
  refine w_seq ?_
  refine w_seq ?_
  refine w_region rfl ?_
  refine w_d rfl (d_loado (v := .agg ⟨[.int .i64 l.f_Kind, .int .u32 l.f_Seen, .int .i64 l.f_Age, .int .i64 l.f_Missed]⟩) ty47 rfl (.there .here) rfl rfl rfl rfl) ?_
  obtain ⟨y9, hy10, he⟩ := Option.bind_eq_some_iff.1 he
  refine w_d rfl (call_d (o_call co23 (vs := [.agg ⟨[.int .i64 l.f_Kind, .int .u32 l.f_Seen, .int .i64 l.f_Age, .int .i64 l.f_Missed]⟩]) rfl (life_Gone.calls k (l := (⟨l.f_Kind, l.f_Seen, l.f_Age, l.f_Missed⟩ : life_Life)) hy10))) ?_
  refine w_done ?_
  rcases its he with ⟨c13, he⟩ | ⟨c13, he⟩
  ·
   refine w_then rfl c13 ?_
   refine w_seq ?_
   refine w_region rfl ?_
   refine w_d rfl (d_build (cs' := [.int .i64 0, .int .u32 0, .int .i64 0, .int .i64 0]) Try.underlying47 zr47 rfl (by kernel_rfl) (parts := []) rfl .nil) ?_
   refine w_d rfl (d_iface (v := .int .i64 14) Try.underlying55 rfl rfl) ?_
   refine w_a0 rfl (o_store (v := .agg ⟨[.int .i64 0, .int .u32 0, .int .i64 0, .int .i64 0]⟩) sz47 rfl rfl rfl rfl (one_cons rfl (one_cons rfl (one_cons rfl (one_cons rfl one_nil)))) .here (.here (.here (.here (.here .done))))) ?_
   rintro _ _ _ ⟨rfl, rfl, rfl⟩
   refine w_d rfl (d_assign (v := errV 55 (some 14)) rfl) ?_
   refine w_done ?_
   obtain rfl := Option.some.inj he
   refine w_return fn_24 rs_24 (.box (v := .agg ⟨[.int .i64 0, .int .u32 0, .int .i64 0, .int .i64 0]⟩) rfl ty47 rfl rfl .here rfl (.tmp (v := errV 55 (some 14)) rfl .nil)) ?_
   exact ⟨⟨[_, _, _], rfl⟩, hle, rfl⟩
  ·
   refine w_else rfl (Bool.eq_false_iff.2 c13) ?_
   refine w_skip ?_
   refine w_seq ?_
   obtain ⟨c14, he⟩ := rq he
   refine w_drawn (p := 7) (tl := [7, 8, 9]) [[], [(0, some 20)], [(1, some 21)], [], [(3, some 23)], [(4, some 24)], [(5, some 25)]] [some 20, some 21, some 22, some 23, some 24, some 25, some 26] (fctF [.is (.pointer (some ⟨b2, 1, none⟩)), .is (.int .u32 l.f_Seen), .is (.int .u32 ((l.f_Seen * 2) % 4294967296)), .is (.pointer (some ⟨b1, 1, none⟩)), .is (.int .i64 r_.f_Window), .is (.int .u32 ((1 * 2 ^ shn .u32 r_.f_Window) % 4294967296)), .is (.int .u32 ((((1 * 2 ^ shn .u32 r_.f_Window) % 4294967296) - 1) % 4294967296))]) (fun m_ => some (b3, .cells ⟨[.int .i64 0, .int .u32 0, .int .i64 0, .int .i64 0]⟩ 47 (0, 0)) :: some (b2, .cells ⟨[.int .i64 l.f_Kind, .int .u32 l.f_Seen, .int .i64 l.f_Age, .int .i64 l.f_Missed]⟩ 47 (0, 0)) :: some (b1, .cells ⟨[.int .i64 r_.f_Hits, .int .i64 r_.f_Window, .int .i64 r_.f_Misses]⟩ 50 (0, 0)) :: L) (fun _ => none) mixed (by kernel_rfl) (by kernel_rfl) rfl (fct_mono (by kernel_rfl)) ⟨(by intro H' m_ hH hm_ hu_; refine depK_nil ?_; exact s_d (m_ 0) rfl (d_fld (o' := 1) Try.underlying47 rfl sz29 rfl rfl rfl) (by exact rfl) rfl), (by intro H' m_ hH hm_ hu_; rintro _ rfl; refine depK_nil ?_; exact s_d (m_ 1) rfl (d_loado (v := .int .u32 l.f_Seen) ty29 rfl (.there .here) rfl rfl rfl rfl) (by exact rfl) rfl), (by intro H' m_ hH hm_ hu_; rintro _ rfl; refine depK_nil ?_; exact s_d (m_ 2) rfl (d_shl (c := (l.f_Seen * 2) % 4294967296) rfl rfl (by decide) rfl) (by exact rfl) rfl), (by intro H' m_ hH hm_ hu_; refine depK_nil ?_; exact s_d (m_ 3) rfl (d_fld (o' := 1) Try.underlying50 rfl sz3 rfl rfl rfl) (by exact rfl) rfl), (by intro H' m_ hH hm_ hu_; rintro _ rfl; refine depK_nil ?_; exact s_d (m_ 4) rfl (d_loado (v := .int .i64 r_.f_Window) ty3 rfl (.there (.there .here)) rfl rfl rfl rfl) (by exact rfl) rfl), (by intro H' m_ hH hm_ hu_; rintro _ rfl; refine depK_nil ?_; exact s_d (m_ 5) rfl (d_shl (c := (1 * 2 ^ shn .u32 r_.f_Window) % 4294967296) rfl rfl c14 rfl) (by exact rfl) rfl), (by intro H' m_ hH hm_ hu_; rintro _ rfl; refine depK_nil ?_; exact s_d (m_ 6) rfl (d_sub (c := (((1 * 2 ^ shn .u32 r_.f_Window) % 4294967296) - 1) % 4294967296) rfl rfl rfl) (by exact rfl) rfl), trivial⟩ ?_
   intro H15 e16
   rintro _ _ rfl _ _ rfl _ _ rfl _ _ rfl _ _ rfl _ _ rfl _ _ rfl
   refine w_d rfl (d_band rfl rfl) ?_
   refine w_d rfl (d_fld (o' := 1) Try.underlying47 rfl sz29 rfl rfl rfl) ?_
   refine w_a0 rfl (o_store (v := .int .u32 (iand .u32 ((l.f_Seen * 2) % 4294967296) ((((1 * 2 ^ shn .u32 r_.f_Window) % 4294967296) - 1) % 4294967296))) sz29 rfl rfl rfl rfl (one_cons rfl one_nil) (.there .here) (.there (.here .done))) ?_
   rintro _ _ _ ⟨rfl, rfl, rfl⟩
   refine w_done ?_
   refine w_seq ?_
   refine w_region rfl ?_
   refine w_d rfl (d_fld (o' := 2) Try.underlying47 rfl sz3 rfl rfl rfl) ?_
   refine w_d rfl (d_loado (v := .int .i64 l.f_Age) ty3 rfl (.there .here) rfl rfl rfl rfl) ?_
   refine w_d rfl (d_add (c := w64 (l.f_Age + 1)) rfl rfl rfl) ?_
   refine w_d rfl (d_fld (o' := 1) Try.underlying50 rfl sz3 rfl rfl rfl) ?_
   refine w_d rfl (d_loado (v := .int .i64 r_.f_Window) ty3 rfl (.there (.there .here)) rfl rfl rfl rfl) ?_
   refine w_d rfl (d_min rfl rfl) ?_
   refine w_d rfl (d_fld (o' := 2) Try.underlying47 rfl sz3 rfl rfl rfl) ?_
   refine w_a0 rfl (o_store (v := .int .i64 (min (w64 (l.f_Age + 1)) r_.f_Window)) sz3 rfl rfl rfl rfl (one_cons rfl one_nil) (.there .here) (.there (.there (.here .done)))) ?_
   rintro _ _ _ ⟨rfl, rfl, rfl⟩
   refine w_done ?_
   refine w_seq ?_
   refine w_region rfl ?_
   refine w_d rfl (d_fld (o' := 3) Try.underlying47 rfl sz3 rfl rfl rfl) ?_
   refine w_d rfl (d_loado (v := .int .i64 l.f_Missed) ty3 rfl (.there .here) rfl rfl rfl rfl) ?_
   refine w_d rfl (d_add (c := w64 (l.f_Missed + 1)) rfl rfl rfl) ?_
   refine w_d rfl (d_fld (o' := 2) Try.underlying50 rfl sz3 rfl rfl rfl) ?_
   refine w_d rfl (d_loado (v := .int .i64 r_.f_Misses) ty3 rfl (.there (.there .here)) rfl rfl rfl rfl) ?_
   refine w_d rfl (d_min rfl rfl) ?_
   refine w_d rfl (d_fld (o' := 3) Try.underlying47 rfl sz3 rfl rfl rfl) ?_
   refine w_a0 rfl (o_store (v := .int .i64 (min (w64 (l.f_Missed + 1)) r_.f_Misses)) sz3 rfl rfl rfl rfl (one_cons rfl one_nil) (.there .here) (.there (.there (.there (.here .done))))) ?_
   rintro _ _ _ ⟨rfl, rfl, rfl⟩
   refine w_done ?_
   refine w_seq ?_
   refine w_seq ?_
   refine w_region rfl ?_
   refine w_d rfl (d_move (v := .bool hit) rfl) ?_
   refine w_done ?_
   rcases its he with ⟨c17, he⟩ | ⟨c17, he⟩
   ·
    refine w_then rfl c17 ?_
    refine w_seq ?_
    refine w_region rfl ?_
    refine w_d rfl (d_fld (o' := 1) Try.underlying47 rfl sz29 rfl rfl rfl) ?_
    refine w_d rfl (d_loado (v := .int .u32 (iand .u32 ((l.f_Seen * 2) % 4294967296) ((((1 * 2 ^ shn .u32 r_.f_Window) % 4294967296) - 1) % 4294967296))) ty29 rfl (.there .here) rfl rfl rfl rfl) ?_
    refine w_d rfl (d_bor rfl rfl) ?_
    refine w_d rfl (d_fld (o' := 1) Try.underlying47 rfl sz29 rfl rfl rfl) ?_
    refine w_a0 rfl (o_store (v := .int .u32 (ior .u32 (iand .u32 ((l.f_Seen * 2) % 4294967296) ((((1 * 2 ^ shn .u32 r_.f_Window) % 4294967296) - 1) % 4294967296)) 1)) sz29 rfl rfl rfl rfl (one_cons rfl one_nil) (.there .here) (.there (.here .done))) ?_
    rintro _ _ _ ⟨rfl, rfl, rfl⟩
    refine w_done ?_
    refine w_region rfl ?_
    refine w_d rfl (d_fld (o' := 3) Try.underlying47 rfl sz3 rfl rfl rfl) ?_
    refine w_a0 rfl (o_store (v := .int .i64 0) sz3 rfl rfl rfl rfl (one_cons rfl one_nil) (.there .here) (.there (.there (.there (.here .done))))) ?_
    rintro _ _ _ ⟨rfl, rfl, rfl⟩
    refine w_done ?_
    refine w_sl 3 (.pointer (some ⟨b1, 0, none⟩)) rfl ?_
    refine w_sl 4 (.pointer (some ⟨b2, 0, none⟩)) rfl ?_
    refine w_sl 6 (.pointer (some ⟨b3, 0, none⟩)) rfl ?_
    refine w_sl 7 (errV 55 none) rfl ?_
    exact life_Next.j1_ok (k := k) (hle.trans e16) he
   ·
    refine w_else rfl (Bool.eq_false_iff.2 c17) ?_
    refine w_skip ?_
    refine w_sl 3 (.pointer (some ⟨b1, 0, none⟩)) rfl ?_
    refine w_sl 4 (.pointer (some ⟨b2, 0, none⟩)) rfl ?_
    refine w_sl 6 (.pointer (some ⟨b3, 0, none⟩)) rfl ?_
    refine w_sl 7 (errV 55 none) rfl ?_
    exact life_Next.j1_ok (k := k) (hle.trans e16) he
/-! ### radome/radomelaw23.sure -/
noncomputable def radomelaw23_sure.C : Code := (Try.f21.body).getD .skip
def radomelaw23_sure.out (r : Bool) (H : Hp) (v : Value) : Prop := v = .bool r
abbrev radomelaw23_sure.R (H0 : Hp) (L : Items) (r : Bool) : Value → Hp → Items → Prop := fun v H' L' => (∃ p, L' = p ++ L) ∧ H0.le H' ∧ radomelaw23_sure.out r H' v
noncomputable def radomelaw23_sure.f (k : Nat)  : Option Bool := (life_Born.f k (⟨2, 3, 3⟩ : life_Rule)).bind fun y2 => (life_Next.f k (⟨2, 3, 3⟩ : life_Rule) (⟨y2.1.f_Kind, y2.1.f_Seen, y2.1.f_Age, y2.1.f_Missed⟩ : life_Life) false).bind fun y7 => (life_Next.f k (⟨2, 3, 3⟩ : life_Rule) (⟨y7.1.f_Kind, y7.1.f_Seen, y7.1.f_Age, y7.1.f_Missed⟩ : life_Life) true).bind fun y12 => (gd ((((((y2.2.isNone && y7.2.isNone) && y12.2.isNone) && (decide (y2.1.f_Kind = 0))) && (decide (y7.1.f_Kind = 0))) && (decide (y12.1.f_Kind = 1))) && (decide (y12.1.f_Seen = 5))) (life_Gone.f k (⟨y12.1.f_Kind, y12.1.f_Seen, y12.1.f_Age, y12.1.f_Missed⟩ : life_Life)) (false)).bind fun y35 => some (((((((y2.2.isNone && y7.2.isNone) && y12.2.isNone) && (decide (y2.1.f_Kind = 0))) && (decide (y7.1.f_Kind = 0))) && (decide (y12.1.f_Kind = 1))) && (decide (y12.1.f_Seen = 5))) && (!y35))
theorem radomelaw23_sure.mono : ∀ k, LeO (radomelaw23_sure.f k) (radomelaw23_sure.f (k + 1)) := fun k => by unfold radomelaw23_sure.f; exact (LeO.bind (life_Born.mono k _) fun _ => LeO.bind (life_Next.mono k _ _ _) fun _ => LeO.bind (life_Next.mono k _ _ _) fun _ => LeO.bind (LeO.gd (life_Gone.mono k _)) fun _ => LeO.refl _)
set_option maxRecDepth 100000 in
set_option maxHeartbeats 2000000 in
theorem radomelaw23_sure.calls (k : Nat) {H : Hp} {L : Items} {r : Bool} (he : radomelaw23_sure.f k  = some r) : Ct Try.prog 21 ⟨[]⟩ H L (fun v H' L' => L = L' ∧ H = H' ∧ v = .bool r) := by
 refine ct_outs (O := radomelaw23_sure.out r) (fun _ _ h => h) ?_
 have hle : H.le H := .refl _
 unfold radomelaw23_sure.f at he
 refine ct_enter (args := []) fn_21 rfl nt_21 rfl ?_
 refine w_seq ?_
 refine w_region rfl ?_
 refine w_d rfl (d_assign (v := .bool false) rfl) ?_
 refine w_done ?_
 refine w_seq ?_
 refine w_region rfl ?_
 refine w_d rfl (d_build (cs' := [.int .i64 2, .int .i64 3, .int .i64 3]) Try.underlying50 zr50 rfl (by kernel_rfl) (parts := [(0, .int .i64 2), (1, .int .i64 3), (2, .int .i64 3)]) rfl (.cons (place_of rfl sz3 rfl) rfl rfl (.here .done) (.cons (place_of rfl sz3 rfl) rfl rfl (.there (.here .done)) (.cons (place_of rfl sz3 rfl) rfl rfl (.there (.there (.here .done))) .nil)))) ?_
 refine w_a rfl (o_alloc zr50 rfl) ?_
 rintro _ _ _ ⟨b1, rfl, rfl, rfl⟩
 refine w_a0 rfl (o_store (v := .agg ⟨[.int .i64 2, .int .i64 3, .int .i64 3]⟩) sz50 rfl rfl rfl rfl (one_cons rfl (one_cons rfl (one_cons rfl one_nil))) .here (.here (.here (.here .done)))) ?_
 rintro _ _ _ ⟨rfl, rfl, rfl⟩
 refine w_done ?_
 refine w_seq ?_
 refine w_region rfl ?_
 refine w_d rfl (d_loado (v := .agg ⟨[.int .i64 2, .int .i64 3, .int .i64 3]⟩) ty50 rfl .here rfl rfl rfl rfl) ?_
 obtain ⟨y2, hy3, he⟩ := Option.bind_eq_some_iff.1 he
 refine w_d rfl (call_d (o_call co22 (vs := [.agg ⟨[.int .i64 2, .int .i64 3, .int .i64 3]⟩]) rfl (life_Born.calls k (r_ := (⟨2, 3, 3⟩ : life_Rule)) hy3))) ?_
 refine w_d rfl (d_move (v := .tuple ⟨[.agg ⟨[.int .i64 y2.1.f_Kind, .int .u32 y2.1.f_Seen, .int .i64 y2.1.f_Age, .int .i64 y2.1.f_Missed]⟩, errV 55 y2.2]⟩) rfl) ?_
 refine w_d rfl (d_ext (vs := [.agg ⟨[.int .i64 y2.1.f_Kind, .int .u32 y2.1.f_Seen, .int .i64 y2.1.f_Age, .int .i64 y2.1.f_Missed]⟩, errV 55 y2.2]) rfl rfl) ?_
 refine w_d rfl (d_ext (vs := [.agg ⟨[.int .i64 y2.1.f_Kind, .int .u32 y2.1.f_Seen, .int .i64 y2.1.f_Age, .int .i64 y2.1.f_Missed]⟩, errV 55 y2.2]) rfl rfl) ?_
 refine w_a rfl (o_alloc zr47 rfl) ?_
 rintro _ _ _ ⟨b6, rfl, rfl, rfl⟩
 refine w_a0 rfl (o_store (v := .agg ⟨[.int .i64 y2.1.f_Kind, .int .u32 y2.1.f_Seen, .int .i64 y2.1.f_Age, .int .i64 y2.1.f_Missed]⟩) sz47 rfl rfl rfl rfl (one_cons rfl (one_cons rfl (one_cons rfl (one_cons rfl one_nil)))) .here (.here (.here (.here (.here .done))))) ?_
 rintro _ _ _ ⟨rfl, rfl, rfl⟩
 refine w_d rfl (d_assign (v := errV 55 y2.2) rfl) ?_
 refine w_done ?_
 refine w_seq ?_
 refine w_region rfl ?_
 refine w_d rfl (d_loado (v := .agg ⟨[.int .i64 2, .int .i64 3, .int .i64 3]⟩) ty50 rfl (.there .here) rfl rfl rfl rfl) ?_
 refine w_d rfl (d_loado (v := .agg ⟨[.int .i64 y2.1.f_Kind, .int .u32 y2.1.f_Seen, .int .i64 y2.1.f_Age, .int .i64 y2.1.f_Missed]⟩) ty47 rfl .here rfl rfl rfl rfl) ?_
 obtain ⟨y7, hy8, he⟩ := Option.bind_eq_some_iff.1 he
 refine w_d rfl (call_d (o_call co24 (vs := [.agg ⟨[.int .i64 2, .int .i64 3, .int .i64 3]⟩, .agg ⟨[.int .i64 y2.1.f_Kind, .int .u32 y2.1.f_Seen, .int .i64 y2.1.f_Age, .int .i64 y2.1.f_Missed]⟩, .bool false]) rfl (life_Next.calls k (r_ := (⟨2, 3, 3⟩ : life_Rule)) (l := (⟨y2.1.f_Kind, y2.1.f_Seen, y2.1.f_Age, y2.1.f_Missed⟩ : life_Life)) hy8))) ?_
 refine w_d rfl (d_move (v := .tuple ⟨[.agg ⟨[.int .i64 y7.1.f_Kind, .int .u32 y7.1.f_Seen, .int .i64 y7.1.f_Age, .int .i64 y7.1.f_Missed]⟩, errV 55 y7.2]⟩) rfl) ?_
 refine w_d rfl (d_ext (vs := [.agg ⟨[.int .i64 y7.1.f_Kind, .int .u32 y7.1.f_Seen, .int .i64 y7.1.f_Age, .int .i64 y7.1.f_Missed]⟩, errV 55 y7.2]) rfl rfl) ?_
 refine w_d rfl (d_ext (vs := [.agg ⟨[.int .i64 y7.1.f_Kind, .int .u32 y7.1.f_Seen, .int .i64 y7.1.f_Age, .int .i64 y7.1.f_Missed]⟩, errV 55 y7.2]) rfl rfl) ?_
 refine w_a rfl (o_alloc zr47 rfl) ?_
 rintro _ _ _ ⟨b11, rfl, rfl, rfl⟩
 refine w_a0 rfl (o_store (v := .agg ⟨[.int .i64 y7.1.f_Kind, .int .u32 y7.1.f_Seen, .int .i64 y7.1.f_Age, .int .i64 y7.1.f_Missed]⟩) sz47 rfl rfl rfl rfl (one_cons rfl (one_cons rfl (one_cons rfl (one_cons rfl one_nil)))) .here (.here (.here (.here (.here .done))))) ?_
 rintro _ _ _ ⟨rfl, rfl, rfl⟩
 refine w_d rfl (d_assign (v := errV 55 y7.2) rfl) ?_
 refine w_done ?_
 refine w_seq ?_
 refine w_region rfl ?_
 refine w_d rfl (d_loado (v := .agg ⟨[.int .i64 2, .int .i64 3, .int .i64 3]⟩) ty50 rfl (.there (.there .here)) rfl rfl rfl rfl) ?_
 refine w_d rfl (d_loado (v := .agg ⟨[.int .i64 y7.1.f_Kind, .int .u32 y7.1.f_Seen, .int .i64 y7.1.f_Age, .int .i64 y7.1.f_Missed]⟩) ty47 rfl .here rfl rfl rfl rfl) ?_
 obtain ⟨y12, hy13, he⟩ := Option.bind_eq_some_iff.1 he
 refine w_d rfl (call_d (o_call co24 (vs := [.agg ⟨[.int .i64 2, .int .i64 3, .int .i64 3]⟩, .agg ⟨[.int .i64 y7.1.f_Kind, .int .u32 y7.1.f_Seen, .int .i64 y7.1.f_Age, .int .i64 y7.1.f_Missed]⟩, .bool true]) rfl (life_Next.calls k (r_ := (⟨2, 3, 3⟩ : life_Rule)) (l := (⟨y7.1.f_Kind, y7.1.f_Seen, y7.1.f_Age, y7.1.f_Missed⟩ : life_Life)) hy13))) ?_
 refine w_d rfl (d_move (v := .tuple ⟨[.agg ⟨[.int .i64 y12.1.f_Kind, .int .u32 y12.1.f_Seen, .int .i64 y12.1.f_Age, .int .i64 y12.1.f_Missed]⟩, errV 55 y12.2]⟩) rfl) ?_
 refine w_d rfl (d_ext (vs := [.agg ⟨[.int .i64 y12.1.f_Kind, .int .u32 y12.1.f_Seen, .int .i64 y12.1.f_Age, .int .i64 y12.1.f_Missed]⟩, errV 55 y12.2]) rfl rfl) ?_
 refine w_d rfl (d_ext (vs := [.agg ⟨[.int .i64 y12.1.f_Kind, .int .u32 y12.1.f_Seen, .int .i64 y12.1.f_Age, .int .i64 y12.1.f_Missed]⟩, errV 55 y12.2]) rfl rfl) ?_
 refine w_a rfl (o_alloc zr47 rfl) ?_
 rintro _ _ _ ⟨b16, rfl, rfl, rfl⟩
 refine w_a0 rfl (o_store (v := .agg ⟨[.int .i64 y12.1.f_Kind, .int .u32 y12.1.f_Seen, .int .i64 y12.1.f_Age, .int .i64 y12.1.f_Missed]⟩) sz47 rfl rfl rfl rfl (one_cons rfl (one_cons rfl (one_cons rfl (one_cons rfl one_nil)))) .here (.here (.here (.here (.here .done))))) ?_
 rintro _ _ _ ⟨rfl, rfl, rfl⟩
 refine w_d rfl (d_assign (v := errV 55 y12.2) rfl) ?_
 refine w_done ?_
 refine w_seq ?_
 refine w_region rfl ?_
 refine w_d rfl (d_move (v := errV 55 y2.2) rfl) ?_
 refine w_d rfl (d_eqnil (e := y2.2) Try.underlying24 rfl) ?_
 refine w_d rfl (d_move (v := .bool y2.2.isNone) rfl) ?_
 refine w_g (g := y2.2.isNone) rfl rfl rfl wn_t (fun g17 => d_move (v := errV 55 y7.2) rfl) ?_
 refine w_g (g := y2.2.isNone) rfl rfl rfl wn_t (fun g18 => d_eqnil (e := y7.2) Try.underlying24 (cvt g18)) ?_
 refine w_d rfl (d_and' (b := y2.2.isNone) (p := y7.2.isNone) rfl rfl rfl) ?_
 refine w_d rfl (d_move (v := .bool (y2.2.isNone && y7.2.isNone)) rfl) ?_
 refine w_g (g := y2.2.isNone && y7.2.isNone) rfl rfl rfl wn_t (fun g19 => d_move (v := errV 55 y12.2) rfl) ?_
 refine w_g (g := y2.2.isNone && y7.2.isNone) rfl rfl rfl wn_t (fun g20 => d_eqnil (e := y12.2) Try.underlying24 (cvt g20)) ?_
 refine w_d rfl (d_and' (b := (y2.2.isNone && y7.2.isNone)) (p := y12.2.isNone) rfl rfl rfl) ?_
 refine w_d rfl (d_move (v := .bool ((y2.2.isNone && y7.2.isNone) && y12.2.isNone)) rfl) ?_
 refine w_g (g := (y2.2.isNone && y7.2.isNone) && y12.2.isNone) rfl rfl rfl wn_t (fun g21 => d_fld (o' := 0) Try.underlying47 rfl sz3 rfl rfl rfl) ?_
 refine w_g (g := (y2.2.isNone && y7.2.isNone) && y12.2.isNone) rfl rfl rfl wn_t (fun g22 => d_loado (v := .int .i64 y2.1.f_Kind) ty3 (cvt g22) (.there (.there .here)) rfl rfl rfl rfl) ?_
 refine w_g (g := (y2.2.isNone && y7.2.isNone) && y12.2.isNone) rfl rfl rfl wn_t (fun g23 => d_eql (cvt g23) rfl) ?_
 refine w_d rfl (d_and' (b := ((y2.2.isNone && y7.2.isNone) && y12.2.isNone)) (p := (decide (y2.1.f_Kind = 0))) rfl rfl rfl) ?_
 refine w_d rfl (d_move (v := .bool (((y2.2.isNone && y7.2.isNone) && y12.2.isNone) && (decide (y2.1.f_Kind = 0)))) rfl) ?_
 refine w_g (g := ((y2.2.isNone && y7.2.isNone) && y12.2.isNone) && (decide (y2.1.f_Kind = 0))) rfl rfl rfl wn_t (fun g24 => d_fld (o' := 0) Try.underlying47 rfl sz3 rfl rfl rfl) ?_
 refine w_g (g := ((y2.2.isNone && y7.2.isNone) && y12.2.isNone) && (decide (y2.1.f_Kind = 0))) rfl rfl rfl wn_t (fun g25 => d_loado (v := .int .i64 y7.1.f_Kind) ty3 (cvt g25) (.there .here) rfl rfl rfl rfl) ?_
 refine w_g (g := ((y2.2.isNone && y7.2.isNone) && y12.2.isNone) && (decide (y2.1.f_Kind = 0))) rfl rfl rfl wn_t (fun g26 => d_eql (cvt g26) rfl) ?_
 refine w_d rfl (d_and' (b := (((y2.2.isNone && y7.2.isNone) && y12.2.isNone) && (decide (y2.1.f_Kind = 0)))) (p := (decide (y7.1.f_Kind = 0))) rfl rfl rfl) ?_
 refine w_d rfl (d_move (v := .bool ((((y2.2.isNone && y7.2.isNone) && y12.2.isNone) && (decide (y2.1.f_Kind = 0))) && (decide (y7.1.f_Kind = 0)))) rfl) ?_
 refine w_g (g := (((y2.2.isNone && y7.2.isNone) && y12.2.isNone) && (decide (y2.1.f_Kind = 0))) && (decide (y7.1.f_Kind = 0))) rfl rfl rfl wn_t (fun g27 => d_fld (o' := 0) Try.underlying47 rfl sz3 rfl rfl rfl) ?_
 refine w_g (g := (((y2.2.isNone && y7.2.isNone) && y12.2.isNone) && (decide (y2.1.f_Kind = 0))) && (decide (y7.1.f_Kind = 0))) rfl rfl rfl wn_t (fun g28 => d_loado (v := .int .i64 y12.1.f_Kind) ty3 (cvt g28) .here rfl rfl rfl rfl) ?_
 refine w_g (g := (((y2.2.isNone && y7.2.isNone) && y12.2.isNone) && (decide (y2.1.f_Kind = 0))) && (decide (y7.1.f_Kind = 0))) rfl rfl rfl wn_t (fun g29 => d_eql (cvt g29) rfl) ?_
 refine w_d rfl (d_and' (b := ((((y2.2.isNone && y7.2.isNone) && y12.2.isNone) && (decide (y2.1.f_Kind = 0))) && (decide (y7.1.f_Kind = 0)))) (p := (decide (y12.1.f_Kind = 1))) rfl rfl rfl) ?_
 refine w_d rfl (d_move (v := .bool (((((y2.2.isNone && y7.2.isNone) && y12.2.isNone) && (decide (y2.1.f_Kind = 0))) && (decide (y7.1.f_Kind = 0))) && (decide (y12.1.f_Kind = 1)))) rfl) ?_
 refine w_g (g := ((((y2.2.isNone && y7.2.isNone) && y12.2.isNone) && (decide (y2.1.f_Kind = 0))) && (decide (y7.1.f_Kind = 0))) && (decide (y12.1.f_Kind = 1))) rfl rfl rfl wn_t (fun g30 => d_fld (o' := 1) Try.underlying47 rfl sz29 rfl rfl rfl) ?_
 refine w_g (g := ((((y2.2.isNone && y7.2.isNone) && y12.2.isNone) && (decide (y2.1.f_Kind = 0))) && (decide (y7.1.f_Kind = 0))) && (decide (y12.1.f_Kind = 1))) rfl rfl rfl wn_t (fun g31 => d_loado (v := .int .u32 y12.1.f_Seen) ty29 (cvt g31) .here rfl rfl rfl rfl) ?_
 refine w_g (g := ((((y2.2.isNone && y7.2.isNone) && y12.2.isNone) && (decide (y2.1.f_Kind = 0))) && (decide (y7.1.f_Kind = 0))) && (decide (y12.1.f_Kind = 1))) rfl rfl rfl wn_t (fun g32 => d_eql (cvt g32) rfl) ?_
 refine w_d rfl (d_and' (b := (((((y2.2.isNone && y7.2.isNone) && y12.2.isNone) && (decide (y2.1.f_Kind = 0))) && (decide (y7.1.f_Kind = 0))) && (decide (y12.1.f_Kind = 1)))) (p := (decide (y12.1.f_Seen = 5))) rfl rfl rfl) ?_
 refine w_d rfl (d_move (v := .bool ((((((y2.2.isNone && y7.2.isNone) && y12.2.isNone) && (decide (y2.1.f_Kind = 0))) && (decide (y7.1.f_Kind = 0))) && (decide (y12.1.f_Kind = 1))) && (decide (y12.1.f_Seen = 5)))) rfl) ?_
 refine w_g (g := (((((y2.2.isNone && y7.2.isNone) && y12.2.isNone) && (decide (y2.1.f_Kind = 0))) && (decide (y7.1.f_Kind = 0))) && (decide (y12.1.f_Kind = 1))) && (decide (y12.1.f_Seen = 5))) rfl rfl rfl wn_t (fun g33 => d_loado (v := .agg ⟨[.int .i64 y12.1.f_Kind, .int .u32 y12.1.f_Seen, .int .i64 y12.1.f_Age, .int .i64 y12.1.f_Missed]⟩) ty47 rfl .here rfl rfl rfl rfl) ?_
 obtain ⟨y35, hy36, he⟩ := Option.bind_eq_some_iff.1 he
 refine w_g (g := (((((y2.2.isNone && y7.2.isNone) && y12.2.isNone) && (decide (y2.1.f_Kind = 0))) && (decide (y7.1.f_Kind = 0))) && (decide (y12.1.f_Kind = 1))) && (decide (y12.1.f_Seen = 5))) rfl rfl rfl wn_t (fun g34 => call_d (o_call co23 (vs := [.agg ⟨[.int .i64 y12.1.f_Kind, .int .u32 y12.1.f_Seen, .int .i64 y12.1.f_Age, .int .i64 y12.1.f_Missed]⟩]) (acons (cvt g34) (anil)) (life_Gone.calls k (l := (⟨y12.1.f_Kind, y12.1.f_Seen, y12.1.f_Age, y12.1.f_Missed⟩ : life_Life)) (gd_t g34 hy36)))) ?_
 refine w_g (g := (((((y2.2.isNone && y7.2.isNone) && y12.2.isNone) && (decide (y2.1.f_Kind = 0))) && (decide (y7.1.f_Kind = 0))) && (decide (y12.1.f_Kind = 1))) && (decide (y12.1.f_Seen = 5))) rfl rfl rfl wn_t (fun g39 => d_not (b := y35) (cvt g39)) ?_
 refine w_d rfl (d_and' (b := ((((((y2.2.isNone && y7.2.isNone) && y12.2.isNone) && (decide (y2.1.f_Kind = 0))) && (decide (y7.1.f_Kind = 0))) && (decide (y12.1.f_Kind = 1))) && (decide (y12.1.f_Seen = 5)))) (p := (!y35)) rfl rfl rfl) ?_
 refine w_d rfl (d_assign (v := .bool (((((((y2.2.isNone && y7.2.isNone) && y12.2.isNone) && (decide (y2.1.f_Kind = 0))) && (decide (y7.1.f_Kind = 0))) && (decide (y12.1.f_Kind = 1))) && (decide (y12.1.f_Seen = 5))) && (!y35))) rfl) ?_
 refine w_done ?_
 obtain rfl := Option.some.inj he
 refine w_return fn_21 rs_21 (.tmp (v := .bool (((((((y2.2.isNone && y7.2.isNone) && y12.2.isNone) && (decide (y2.1.f_Kind = 0))) && (decide (y7.1.f_Kind = 0))) && (decide (y12.1.f_Kind = 1))) && (decide (y12.1.f_Seen = 5))) && (!y35))) rfl .nil) ?_
 exact ⟨⟨[_, _, _, _], rfl⟩, hle, rfl⟩
end Go.Proofs.Ytddcfnhbedpbnaa.GLL

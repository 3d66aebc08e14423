/- A text of this session, written by a program (wip/k/gen.py): Go functions as Lean functions, and proofs that the code comes to them. -/
import Derived.Test.YtddcfnhbedpbnaaDoorGTRt
namespace Go.Proofs.YtddcfnhbedpbnaaDoor.GTR
open Go Go.RowKit Go.Proofs.YtddcfnhbedpbnaaDoorK Go.Proofs.YtddcfnhbedpbnaaDoor
set_option linter.unusedVariables false
set_option linter.unusedSimpArgs false
/-! ### math/bits.Mul64 -/
noncomputable def bits_Mul64.C : Code := (Tryd.f37.body).getD .skip
def bits_Mul64.out (r : Int × Int) (H : Hp) (v : Value) : Prop := v = .tuple ⟨[.int .u64 r.1, .int .u64 r.2]⟩
abbrev bits_Mul64.R (H0 : Hp) (L : Items) (r : Int × Int) : Value → Hp → Items → Prop := fun v H' L' => (∃ p, L' = p ++ L) ∧ H0.le H' ∧ bits_Mul64.out r H' v
noncomputable def bits_Mul64.f (k : Nat) (x : Int) (y : Int) : Option (Int × Int) := some (((((((x / 4294967296) * (y / 4294967296)) % 18446744073709551616) + ((((((x / 4294967296) * (iand .u64 y 4294967295)) % 18446744073709551616) + ((((iand .u64 x 4294967295) * (iand .u64 y 4294967295)) % 18446744073709551616) / 4294967296)) % 18446744073709551616) / 4294967296)) % 18446744073709551616) + ((((iand .u64 (((((x / 4294967296) * (iand .u64 y 4294967295)) % 18446744073709551616) + ((((iand .u64 x 4294967295) * (iand .u64 y 4294967295)) % 18446744073709551616) / 4294967296)) % 18446744073709551616) 4294967295) + (((iand .u64 x 4294967295) * (y / 4294967296)) % 18446744073709551616)) % 18446744073709551616) / 4294967296)) % 18446744073709551616, (x * y) % 18446744073709551616)
theorem bits_Mul64.mono : ∀ k y0 y1, LeO (bits_Mul64.f k y0 y1) (bits_Mul64.f (k + 1) y0 y1) := fun k _ _ => by unfold bits_Mul64.f; exact (LeO.refl _)
set_option maxRecDepth 100000 in
set_option maxHeartbeats 2000000 in
theorem bits_Mul64.calls (k : Nat) {H : Hp} {L : Items} {x : Int} {y : Int} {r : Int × Int} (he : bits_Mul64.f k x y = some r) : Ct Tryd.prog 37 ⟨[.int .u64 x, .int .u64 y]⟩ H L (fun v H' L' => L = L' ∧ H = H' ∧ v = .tuple ⟨[.int .u64 r.1, .int .u64 r.2]⟩) := by
 refine ct_outs (O := bits_Mul64.out r) (fun _ _ h => h) ?_
 have hle : H.le H := .refl _
 unfold bits_Mul64.f at he
 refine ct_enter (args := [.int .u64 x, .int .u64 y]) fn_37 rfl nt_37 rfl ?_
 refine w_seq ?_
 refine w_region rfl ?_
 refine w_d rfl (d_assign (v := .int .u64 0) rfl) ?_
 refine w_d rfl (d_assign (v := .int .u64 0) rfl) ?_
 refine w_done ?_
 refine w_seq ?_
 refine w_region rfl ?_
 refine w_d rfl (d_move (v := .int .u64 x) rfl) ?_
 refine w_d rfl (d_band rfl rfl) ?_
 refine w_d rfl (d_assign (v := .int .u64 (iand .u64 x 4294967295)) rfl) ?_
 refine w_done ?_
 refine w_seq ?_
 refine w_region rfl ?_
 refine w_d rfl (d_move (v := .int .u64 x) rfl) ?_
 refine w_d rfl (d_shr (c := x / 4294967296) rfl rfl (by decide) rfl) ?_
 refine w_d rfl (d_assign (v := .int .u64 (x / 4294967296)) rfl) ?_
 refine w_done ?_
 refine w_seq ?_
 refine w_region rfl ?_
 refine w_d rfl (d_move (v := .int .u64 y) rfl) ?_
 refine w_d rfl (d_band rfl rfl) ?_
 refine w_d rfl (d_assign (v := .int .u64 (iand .u64 y 4294967295)) rfl) ?_
 refine w_done ?_
 refine w_seq ?_
 refine w_region rfl ?_
 refine w_d rfl (d_move (v := .int .u64 y) rfl) ?_
 refine w_d rfl (d_shr (c := y / 4294967296) rfl rfl (by decide) rfl) ?_
 refine w_d rfl (d_assign (v := .int .u64 (y / 4294967296)) rfl) ?_
 refine w_done ?_
 refine w_seq ?_
 refine w_region rfl ?_
 refine w_d rfl (d_move (v := .int .u64 (iand .u64 x 4294967295)) rfl) ?_
 refine w_d rfl (d_move (v := .int .u64 (iand .u64 y 4294967295)) rfl) ?_
 refine w_d rfl (d_mul (c := ((iand .u64 x 4294967295) * (iand .u64 y 4294967295)) % 18446744073709551616) rfl rfl rfl) ?_
 refine w_d rfl (d_assign (v := .int .u64 (((iand .u64 x 4294967295) * (iand .u64 y 4294967295)) % 18446744073709551616)) rfl) ?_
 refine w_done ?_
 refine w_seq ?_
 refine w_region rfl ?_
 refine w_d rfl (d_move (v := .int .u64 (x / 4294967296)) rfl) ?_
 refine w_d rfl (d_move (v := .int .u64 (iand .u64 y 4294967295)) rfl) ?_
 refine w_d rfl (d_mul (c := ((x / 4294967296) * (iand .u64 y 4294967295)) % 18446744073709551616) rfl rfl rfl) ?_
 refine w_d rfl (d_move (v := .int .u64 (((iand .u64 x 4294967295) * (iand .u64 y 4294967295)) % 18446744073709551616)) rfl) ?_
 refine w_d rfl (d_shr (c := (((iand .u64 x 4294967295) * (iand .u64 y 4294967295)) % 18446744073709551616) / 4294967296) rfl rfl (by decide) rfl) ?_
 refine w_d rfl (d_add (c := ((((x / 4294967296) * (iand .u64 y 4294967295)) % 18446744073709551616) + ((((iand .u64 x 4294967295) * (iand .u64 y 4294967295)) % 18446744073709551616) / 4294967296)) % 18446744073709551616) rfl rfl rfl) ?_
 refine w_d rfl (d_assign (v := .int .u64 (((((x / 4294967296) * (iand .u64 y 4294967295)) % 18446744073709551616) + ((((iand .u64 x 4294967295) * (iand .u64 y 4294967295)) % 18446744073709551616) / 4294967296)) % 18446744073709551616)) rfl) ?_
 refine w_done ?_
 refine w_seq ?_
 refine w_region rfl ?_
 refine w_d rfl (d_move (v := .int .u64 (((((x / 4294967296) * (iand .u64 y 4294967295)) % 18446744073709551616) + ((((iand .u64 x 4294967295) * (iand .u64 y 4294967295)) % 18446744073709551616) / 4294967296)) % 18446744073709551616)) rfl) ?_
 refine w_d rfl (d_band rfl rfl) ?_
 refine w_d rfl (d_assign (v := .int .u64 (iand .u64 (((((x / 4294967296) * (iand .u64 y 4294967295)) % 18446744073709551616) + ((((iand .u64 x 4294967295) * (iand .u64 y 4294967295)) % 18446744073709551616) / 4294967296)) % 18446744073709551616) 4294967295)) rfl) ?_
 refine w_done ?_
 refine w_seq ?_
 refine w_region rfl ?_
 refine w_d rfl (d_move (v := .int .u64 (((((x / 4294967296) * (iand .u64 y 4294967295)) % 18446744073709551616) + ((((iand .u64 x 4294967295) * (iand .u64 y 4294967295)) % 18446744073709551616) / 4294967296)) % 18446744073709551616)) rfl) ?_
 refine w_d rfl (d_shr (c := (((((x / 4294967296) * (iand .u64 y 4294967295)) % 18446744073709551616) + ((((iand .u64 x 4294967295) * (iand .u64 y 4294967295)) % 18446744073709551616) / 4294967296)) % 18446744073709551616) / 4294967296) rfl rfl (by decide) rfl) ?_
 refine w_d rfl (d_assign (v := .int .u64 ((((((x / 4294967296) * (iand .u64 y 4294967295)) % 18446744073709551616) + ((((iand .u64 x 4294967295) * (iand .u64 y 4294967295)) % 18446744073709551616) / 4294967296)) % 18446744073709551616) / 4294967296)) rfl) ?_
 refine w_done ?_
 refine w_seq ?_
 refine w_region rfl ?_
 refine w_d rfl (d_move (v := .int .u64 (iand .u64 (((((x / 4294967296) * (iand .u64 y 4294967295)) % 18446744073709551616) + ((((iand .u64 x 4294967295) * (iand .u64 y 4294967295)) % 18446744073709551616) / 4294967296)) % 18446744073709551616) 4294967295)) rfl) ?_
 refine w_d rfl (d_move (v := .int .u64 (iand .u64 x 4294967295)) rfl) ?_
 refine w_d rfl (d_move (v := .int .u64 (y / 4294967296)) rfl) ?_
 refine w_d rfl (d_mul (c := ((iand .u64 x 4294967295) * (y / 4294967296)) % 18446744073709551616) rfl rfl rfl) ?_
 refine w_d rfl (d_add (c := ((iand .u64 (((((x / 4294967296) * (iand .u64 y 4294967295)) % 18446744073709551616) + ((((iand .u64 x 4294967295) * (iand .u64 y 4294967295)) % 18446744073709551616) / 4294967296)) % 18446744073709551616) 4294967295) + (((iand .u64 x 4294967295) * (y / 4294967296)) % 18446744073709551616)) % 18446744073709551616) rfl rfl rfl) ?_
 refine w_d rfl (d_assign (v := .int .u64 (((iand .u64 (((((x / 4294967296) * (iand .u64 y 4294967295)) % 18446744073709551616) + ((((iand .u64 x 4294967295) * (iand .u64 y 4294967295)) % 18446744073709551616) / 4294967296)) % 18446744073709551616) 4294967295) + (((iand .u64 x 4294967295) * (y / 4294967296)) % 18446744073709551616)) % 18446744073709551616)) rfl) ?_
 refine w_done ?_
 refine w_seq ?_
 refine w_region rfl ?_
 refine w_d rfl (d_move (v := .int .u64 (x / 4294967296)) rfl) ?_
 refine w_d rfl (d_move (v := .int .u64 (y / 4294967296)) rfl) ?_
 refine w_d rfl (d_mul (c := ((x / 4294967296) * (y / 4294967296)) % 18446744073709551616) rfl rfl rfl) ?_
 refine w_d rfl (d_move (v := .int .u64 ((((((x / 4294967296) * (iand .u64 y 4294967295)) % 18446744073709551616) + ((((iand .u64 x 4294967295) * (iand .u64 y 4294967295)) % 18446744073709551616) / 4294967296)) % 18446744073709551616) / 4294967296)) rfl) ?_
 refine w_d rfl (d_add (c := ((((x / 4294967296) * (y / 4294967296)) % 18446744073709551616) + ((((((x / 4294967296) * (iand .u64 y 4294967295)) % 18446744073709551616) + ((((iand .u64 x 4294967295) * (iand .u64 y 4294967295)) % 18446744073709551616) / 4294967296)) % 18446744073709551616) / 4294967296)) % 18446744073709551616) rfl rfl rfl) ?_
 refine w_d rfl (d_move (v := .int .u64 (((iand .u64 (((((x / 4294967296) * (iand .u64 y 4294967295)) % 18446744073709551616) + ((((iand .u64 x 4294967295) * (iand .u64 y 4294967295)) % 18446744073709551616) / 4294967296)) % 18446744073709551616) 4294967295) + (((iand .u64 x 4294967295) * (y / 4294967296)) % 18446744073709551616)) % 18446744073709551616)) rfl) ?_
 refine w_d rfl (d_shr (c := (((iand .u64 (((((x / 4294967296) * (iand .u64 y 4294967295)) % 18446744073709551616) + ((((iand .u64 x 4294967295) * (iand .u64 y 4294967295)) % 18446744073709551616) / 4294967296)) % 18446744073709551616) 4294967295) + (((iand .u64 x 4294967295) * (y / 4294967296)) % 18446744073709551616)) % 18446744073709551616) / 4294967296) rfl rfl (by decide) rfl) ?_
 refine w_d rfl (d_add (c := ((((((x / 4294967296) * (y / 4294967296)) % 18446744073709551616) + ((((((x / 4294967296) * (iand .u64 y 4294967295)) % 18446744073709551616) + ((((iand .u64 x 4294967295) * (iand .u64 y 4294967295)) % 18446744073709551616) / 4294967296)) % 18446744073709551616) / 4294967296)) % 18446744073709551616) + ((((iand .u64 (((((x / 4294967296) * (iand .u64 y 4294967295)) % 18446744073709551616) + ((((iand .u64 x 4294967295) * (iand .u64 y 4294967295)) % 18446744073709551616) / 4294967296)) % 18446744073709551616) 4294967295) + (((iand .u64 x 4294967295) * (y / 4294967296)) % 18446744073709551616)) % 18446744073709551616) / 4294967296)) % 18446744073709551616) rfl rfl rfl) ?_
 refine w_d rfl (d_assign (v := .int .u64 (((((((x / 4294967296) * (y / 4294967296)) % 18446744073709551616) + ((((((x / 4294967296) * (iand .u64 y 4294967295)) % 18446744073709551616) + ((((iand .u64 x 4294967295) * (iand .u64 y 4294967295)) % 18446744073709551616) / 4294967296)) % 18446744073709551616) / 4294967296)) % 18446744073709551616) + ((((iand .u64 (((((x / 4294967296) * (iand .u64 y 4294967295)) % 18446744073709551616) + ((((iand .u64 x 4294967295) * (iand .u64 y 4294967295)) % 18446744073709551616) / 4294967296)) % 18446744073709551616) 4294967295) + (((iand .u64 x 4294967295) * (y / 4294967296)) % 18446744073709551616)) % 18446744073709551616) / 4294967296)) % 18446744073709551616)) rfl) ?_
 refine w_done ?_
 refine w_seq ?_
 refine w_region rfl ?_
 refine w_d rfl (d_move (v := .int .u64 x) rfl) ?_
 refine w_d rfl (d_move (v := .int .u64 y) rfl) ?_
 refine w_d rfl (d_mul (c := (x * y) % 18446744073709551616) rfl rfl rfl) ?_
 refine w_d rfl (d_assign (v := .int .u64 ((x * y) % 18446744073709551616)) rfl) ?_
 refine w_done ?_
 obtain rfl := Option.some.inj he
 refine w_return fn_37 rs_37 (.tmp (v := .int .u64 (((((((x / 4294967296) * (y / 4294967296)) % 18446744073709551616) + ((((((x / 4294967296) * (iand .u64 y 4294967295)) % 18446744073709551616) + ((((iand .u64 x 4294967295) * (iand .u64 y 4294967295)) % 18446744073709551616) / 4294967296)) % 18446744073709551616) / 4294967296)) % 18446744073709551616) + ((((iand .u64 (((((x / 4294967296) * (iand .u64 y 4294967295)) % 18446744073709551616) + ((((iand .u64 x 4294967295) * (iand .u64 y 4294967295)) % 18446744073709551616) / 4294967296)) % 18446744073709551616) 4294967295) + (((iand .u64 x 4294967295) * (y / 4294967296)) % 18446744073709551616)) % 18446744073709551616) / 4294967296)) % 18446744073709551616)) rfl (.tmp (v := .int .u64 ((x * y) % 18446744073709551616)) rfl .nil)) ?_
 exact ⟨⟨[], rfl⟩, hle, rfl⟩
/-! ### radome/turn.rounded -/
noncomputable def turn_rounded.C : Code := (Tryd.f38.body).getD .skip
def turn_rounded.out (r : Int) (H : Hp) (v : Value) : Prop := v = .int .u64 r
abbrev turn_rounded.R (H0 : Hp) (L : Items) (r : Int) : Value → Hp → Items → Prop := fun v H' L' => (∃ p, L' = p ++ L) ∧ H0.le H' ∧ turn_rounded.out r H' v
noncomputable def turn_rounded.j1 (k : Nat)  (q : Int) (rest : Int) (middle : Int) (low : Bool) : Option Int := if ((decide (middle < rest)) || ((decide (rest = middle)) && (low || (decide ((iand .u64 q 1) = 1))))) = true then (some ((q + 1) % 18446744073709551616)) else (some (q))
noncomputable def turn_rounded.f (k : Nat) (hi : Int) (lo : Int) (n : Int) : Option Int := if n < 64 then (if 0 ≤ (w64 (64 - n)) then (if 0 ≤ n then (if 0 ≤ n then (if 0 ≤ (w64 (n - 1)) then (turn_rounded.j1 k (ior .u64 ((hi * 2 ^ shn .u64 (w64 (64 - n))) % 18446744073709551616) (lo / 2 ^ shn .u64 n)) (iand .u64 lo ((((1 * 2 ^ shn .u64 n) % 18446744073709551616) - 1) % 18446744073709551616)) ((1 * 2 ^ shn .u64 (w64 (n - 1))) % 18446744073709551616) false) else none) else none) else none) else none) else (if 0 ≤ (w64 (n - 64)) then (if 0 ≤ (w64 (n - 64)) then (if 0 ≤ (w64 (n - 64)) then (if n = 64 then (turn_rounded.j1 k (hi / 2 ^ shn .u64 (w64 (n - 64))) lo 9223372036854775808 false) else (turn_rounded.j1 k (hi / 2 ^ shn .u64 (w64 (n - 64))) (iand .u64 hi ((((1 * 2 ^ shn .u64 (w64 (n - 64))) % 18446744073709551616) - 1) % 18446744073709551616)) (((1 * 2 ^ shn .u64 (w64 (n - 64))) % 18446744073709551616) / 2) (!decide (lo = 0)))) else none) else none) else none)
theorem turn_rounded.j1_mono {k : Nat} : ∀ y0 y1 y2 y3, LeO (turn_rounded.j1 k y0 y1 y2 y3) (turn_rounded.j1 (k + 1) y0 y1 y2 y3) := fun _ _ _ _ => (LeO.ite (LeO.refl _) (LeO.refl _))
theorem turn_rounded.mono : ∀ k y0 y1 y2, LeO (turn_rounded.f k y0 y1 y2) (turn_rounded.f (k + 1) y0 y1 y2) := fun k _ _ _ => by unfold turn_rounded.f; exact (LeO.ite (LeO.ite (LeO.ite (LeO.ite (LeO.ite (turn_rounded.j1_mono (k := k)  _ _ _ _) (LeO.refl _)) (LeO.refl _)) (LeO.refl _)) (LeO.refl _)) (LeO.ite (LeO.ite (LeO.ite (LeO.ite (turn_rounded.j1_mono (k := k)  _ _ _ _) (turn_rounded.j1_mono (k := k)  _ _ _ _)) (LeO.refl _)) (LeO.refl _)) (LeO.refl _)))
noncomputable def turn_rounded.Kj1 : List Item := .code (seqR (seqR (seqR (seqR turn_rounded.C)))) :: []
set_option maxRecDepth 100000 in
set_option maxHeartbeats 2000000 in
theorem turn_rounded.j1_ok {k : Nat} {H0 H : Hp} {L : Items} {r : Int} {jk_ : Nat → Value} {q : Int} {rest : Int} {middle : Int} {low : Bool} (hle : H0.le H) (he : turn_rounded.j1 k q rest middle low = some r) : Wp Tryd.prog 38 67 turn_rounded.Kj1 (upd (upd (upd (upd (upd jk_ 6 (.int .u64 0)) 7 (.int .u64 q)) 8 (.int .u64 rest)) 9 (.int .u64 middle)) 10 (.bool low)) H (L) (turn_rounded.R H0 L r) := by
 unfold turn_rounded.j1 at he
 unfold turn_rounded.Kj1
 refine w_seq ?_
 refine w_seq ?_
 refine w_region rfl ?_
 refine w_d rfl (d_move (v := .int .u64 rest) rfl) ?_
 refine w_d rfl (d_move (v := .int .u64 middle) rfl) ?_
 refine w_d rfl (d_gtr rfl rfl) ?_
 refine w_d rfl (d_move (v := .bool (decide (middle < rest))) rfl) ?_
 refine w_g (g := !(decide (middle < rest))) rfl rfl rfl wn_f (fun g14 => d_move (v := .int .u64 rest) rfl) ?_
 refine w_g (g := !(decide (middle < rest))) rfl rfl rfl wn_f (fun g15 => d_move (v := .int .u64 middle) rfl) ?_
 refine w_g (g := !(decide (middle < rest))) rfl rfl rfl wn_f (fun g16 => d_eql (cvt g16) (cvt g16)) ?_
 refine w_g (g := !(decide (middle < rest))) rfl rfl rfl wn_f (fun g17 => d_move (v := .bool (decide (rest = middle))) (cvt g17)) ?_
 refine w_g (g := (!(decide (middle < rest))) && (decide (rest = middle))) rfl rfl rfl wn_gt (fun g18 => d_move (v := .bool low) rfl) ?_
 refine w_g (g := (!(decide (middle < rest))) && (decide (rest = middle))) rfl rfl rfl wn_gt (fun g19 => d_move (v := .bool low) (cvt g19)) ?_
 refine w_g (g := ((!(decide (middle < rest))) && (decide (rest = middle))) && (!low)) rfl rfl rfl wn_gf (fun g20 => d_move (v := .int .u64 q) rfl) ?_
 refine w_g (g := ((!(decide (middle < rest))) && (decide (rest = middle))) && (!low)) rfl rfl rfl wn_gf (fun g21 => d_band (cvt g21) rfl) ?_
 refine w_g (g := ((!(decide (middle < rest))) && (decide (rest = middle))) && (!low)) rfl rfl rfl wn_gf (fun g22 => d_eql (cvt g22) rfl) ?_
 refine w_g (g := (!(decide (middle < rest))) && (decide (rest = middle))) rfl rfl rfl wn_gt (fun g23 => d_or' (b := low) (p := (decide ((iand .u64 q 1) = 1))) (cvt g23) rfl (cva g23)) ?_
 refine w_g (g := !(decide (middle < rest))) rfl rfl rfl wn_f (fun g24 => d_and' (b := (decide (rest = middle))) (p := (low || (decide ((iand .u64 q 1) = 1)))) (cvt g24) (cva g24) rfl) ?_
 refine w_d rfl (d_or' (b := (decide (middle < rest))) (p := ((decide (rest = middle)) && (low || (decide ((iand .u64 q 1) = 1))))) rfl rfl rfl) ?_
 refine w_done ?_
 rcases its he with ⟨c25, he⟩ | ⟨c25, he⟩
 ·
  refine w_then rfl c25 ?_
  refine w_region rfl ?_
  refine w_d rfl (d_move (v := .int .u64 q) rfl) ?_
  refine w_d rfl (d_add (c := (q + 1) % 18446744073709551616) rfl rfl rfl) ?_
  refine w_d rfl (d_assign (v := .int .u64 ((q + 1) % 18446744073709551616)) rfl) ?_
  refine w_done ?_
  refine w_seq ?_
  refine w_region rfl ?_
  refine w_d rfl (d_move (v := .int .u64 ((q + 1) % 18446744073709551616)) rfl) ?_
  refine w_d rfl (d_assign (v := .int .u64 ((q + 1) % 18446744073709551616)) rfl) ?_
  refine w_done ?_
  obtain rfl := Option.some.inj he
  refine w_return fn_38 rs_38 (.tmp (v := .int .u64 ((q + 1) % 18446744073709551616)) rfl .nil) ?_
  exact ⟨⟨[], rfl⟩, hle, rfl⟩
 ·
  refine w_else rfl (Bool.eq_false_iff.2 c25) ?_
  refine w_skip ?_
  refine w_seq ?_
  refine w_region rfl ?_
  refine w_d rfl (d_move (v := .int .u64 q) rfl) ?_
  refine w_d rfl (d_assign (v := .int .u64 q) rfl) ?_
  refine w_done ?_
  obtain rfl := Option.some.inj he
  refine w_return fn_38 rs_38 (.tmp (v := .int .u64 q) rfl .nil) ?_
  exact ⟨⟨[], rfl⟩, hle, rfl⟩
set_option maxRecDepth 100000 in
set_option maxHeartbeats 2000000 in
theorem turn_rounded.calls (k : Nat) {H : Hp} {L : Items} {hi : Int} {lo : Int} {n : Int} {r : Int} (he : turn_rounded.f k hi lo n = some r) : Ct Tryd.prog 38 ⟨[.int .u64 hi, .int .u64 lo, .int .i64 n]⟩ H L (fun v H' L' => L = L' ∧ H = H' ∧ v = .int .u64 r) := by
 refine ct_outs (O := turn_rounded.out r) (fun _ _ h => h) ?_
 have hle : H.le H := .refl _
 unfold turn_rounded.f at he
 refine ct_enter (args := [.int .u64 hi, .int .u64 lo, .int .i64 n]) fn_38 rfl nt_38 rfl ?_
 refine w_seq ?_
 refine w_region rfl ?_
 refine w_d rfl (d_assign (v := .int .u64 0) rfl) ?_
 refine w_done ?_
 refine w_seq ?_
 refine w_region rfl ?_
 refine w_d rfl (d_assign (v := .int .u64 0) rfl) ?_
 refine w_d rfl (d_assign (v := .int .u64 0) rfl) ?_
 refine w_d rfl (d_assign (v := .int .u64 0) rfl) ?_
 refine w_done ?_
 refine w_seq ?_
 refine w_region rfl ?_
 refine w_d rfl (d_assign (v := .bool false) rfl) ?_
 refine w_done ?_
 refine w_seq ?_
 refine w_seq ?_
 refine w_region rfl ?_
 refine w_d rfl (d_move (v := .int .i64 n) rfl) ?_
 refine w_d rfl (d_lss rfl rfl) ?_
 refine w_done ?_
 rcases its he with ⟨c1, he⟩ | ⟨c1, he⟩
 ·
  refine w_then rfl (decide_eq_true c1) ?_
  obtain ⟨c2, he⟩ := rq he
  obtain ⟨c3, he⟩ := rq he
  obtain ⟨c4, he⟩ := rq he
  obtain ⟨c5, he⟩ := rq he
  refine w_drawn (p := 18) (tl := [18]) [[], [], [(1, some 14)], [(0, some 13), (2, some 15)], [], [], [(4, some 17), (5, some 18)], [(3, some 16), (6, some 19)], [], [], [(9, some 22)], [(10, some 23)], [(8, some 21), (11, some 24)], [], [(13, some 26)], [(14, some 27)], [(7, some 20)], [(12, some 25)]] [some 13, some 14, some 15, some 16, some 17, some 18, some 19, some 20, some 21, some 22, some 23, some 24, some 25, some 26, some 27, some 28, some 7, some 8] (fctF [.is (.int .u64 hi), .is (.int .i64 n), .is (.int .i64 (w64 (64 - n))), .is (.int .u64 ((hi * 2 ^ shn .u64 (w64 (64 - n))) % 18446744073709551616)), .is (.int .u64 lo), .is (.int .i64 n), .is (.int .u64 (lo / 2 ^ shn .u64 n)), .is (.int .u64 (ior .u64 ((hi * 2 ^ shn .u64 (w64 (64 - n))) % 18446744073709551616) (lo / 2 ^ shn .u64 n))), .is (.int .u64 lo), .is (.int .i64 n), .is (.int .u64 ((1 * 2 ^ shn .u64 n) % 18446744073709551616)), .is (.int .u64 ((((1 * 2 ^ shn .u64 n) % 18446744073709551616) - 1) % 18446744073709551616)), .is (.int .u64 (iand .u64 lo ((((1 * 2 ^ shn .u64 n) % 18446744073709551616) - 1) % 18446744073709551616))), .is (.int .i64 n), .is (.int .i64 (w64 (n - 1))), .is (.int .u64 ((1 * 2 ^ shn .u64 (w64 (n - 1))) % 18446744073709551616)), .is (.int .u64 (ior .u64 ((hi * 2 ^ shn .u64 (w64 (64 - n))) % 18446744073709551616) (lo / 2 ^ shn .u64 n))), .is (.int .u64 (iand .u64 lo ((((1 * 2 ^ shn .u64 n) % 18446744073709551616) - 1) % 18446744073709551616)))]) (fun m_ => L) (fun _ => none) mixed (by kernel_rfl) (by kernel_rfl) rfl (fct_mono (by kernel_rfl)) ⟨(by intro H' m_ hH hm_ hu_; refine depK_nil ?_; exact s_d (m_ 0) rfl (d_move (v := .int .u64 hi) rfl) (by exact rfl) rfl), (by intro H' m_ hH hm_ hu_; refine depK_nil ?_; exact s_d (m_ 1) rfl (d_move (v := .int .i64 n) rfl) (by exact rfl) rfl), (by intro H' m_ hH hm_ hu_; rintro _ rfl; refine depK_nil ?_; exact s_d (m_ 2) rfl (d_sub (c := w64 (64 - n)) rfl rfl rfl) (by exact rfl) rfl), (by intro H' m_ hH hm_ hu_; rintro _ rfl _ rfl; refine depK_nil ?_; exact s_d (m_ 3) rfl (d_shl (c := (hi * 2 ^ shn .u64 (w64 (64 - n))) % 18446744073709551616) rfl rfl c2 rfl) (by exact rfl) rfl), (by intro H' m_ hH hm_ hu_; refine depK_nil ?_; exact s_d (m_ 4) rfl (d_move (v := .int .u64 lo) rfl) (by exact rfl) rfl), (by intro H' m_ hH hm_ hu_; refine depK_nil ?_; exact s_d (m_ 5) rfl (d_move (v := .int .i64 n) rfl) (by exact rfl) rfl), (by intro H' m_ hH hm_ hu_; rintro _ rfl _ rfl; refine depK_nil ?_; exact s_d (m_ 6) rfl (d_shr (c := lo / 2 ^ shn .u64 n) rfl rfl c3 rfl) (by exact rfl) rfl), (by intro H' m_ hH hm_ hu_; rintro _ rfl _ rfl; refine depK_nil ?_; exact s_d (m_ 7) rfl (d_bor rfl rfl) (by exact rfl) rfl), (by intro H' m_ hH hm_ hu_; refine depK_nil ?_; exact s_d (m_ 8) rfl (d_move (v := .int .u64 lo) rfl) (by exact rfl) rfl), (by intro H' m_ hH hm_ hu_; refine depK_nil ?_; exact s_d (m_ 9) rfl (d_move (v := .int .i64 n) rfl) (by exact rfl) rfl), (by intro H' m_ hH hm_ hu_; rintro _ rfl; refine depK_nil ?_; exact s_d (m_ 10) rfl (d_shl (c := (1 * 2 ^ shn .u64 n) % 18446744073709551616) rfl rfl c4 rfl) (by exact rfl) rfl), (by intro H' m_ hH hm_ hu_; rintro _ rfl; refine depK_nil ?_; exact s_d (m_ 11) rfl (d_sub (c := (((1 * 2 ^ shn .u64 n) % 18446744073709551616) - 1) % 18446744073709551616) rfl rfl rfl) (by exact rfl) rfl), (by intro H' m_ hH hm_ hu_; rintro _ rfl _ rfl; refine depK_nil ?_; exact s_d (m_ 12) rfl (d_band rfl rfl) (by exact rfl) rfl), (by intro H' m_ hH hm_ hu_; refine depK_nil ?_; exact s_d (m_ 13) rfl (d_move (v := .int .i64 n) rfl) (by exact rfl) rfl), (by intro H' m_ hH hm_ hu_; rintro _ rfl; refine depK_nil ?_; exact s_d (m_ 14) rfl (d_sub (c := w64 (n - 1)) rfl rfl rfl) (by exact rfl) rfl), (by intro H' m_ hH hm_ hu_; rintro _ rfl; refine depK_nil ?_; exact s_d (m_ 15) rfl (d_shl (c := (1 * 2 ^ shn .u64 (w64 (n - 1))) % 18446744073709551616) rfl rfl c5 rfl) (by exact rfl) rfl), (by intro H' m_ hH hm_ hu_; rintro _ rfl; refine depK_nil ?_; exact s_d (m_ 16) rfl (d_assign (v := .int .u64 (ior .u64 ((hi * 2 ^ shn .u64 (w64 (64 - n))) % 18446744073709551616) (lo / 2 ^ shn .u64 n))) rfl) (by exact rfl) rfl), (by intro H' m_ hH hm_ hu_; rintro _ rfl; refine depK_nil ?_; exact s_d (m_ 17) rfl (d_assign (v := .int .u64 (iand .u64 lo ((((1 * 2 ^ shn .u64 n) % 18446744073709551616) - 1) % 18446744073709551616))) rfl) (by exact rfl) rfl), trivial⟩ ?_
  intro H6 e7
  rintro _ _ rfl _ _ rfl _ _ rfl _ _ rfl _ _ rfl _ _ rfl _ _ rfl _ _ rfl _ _ rfl _ _ rfl _ _ rfl _ _ rfl _ _ rfl _ _ rfl _ _ rfl _ _ rfl _ _ rfl _ _ rfl
  refine w_d rfl (d_assign (v := .int .u64 ((1 * 2 ^ shn .u64 (w64 (n - 1))) % 18446744073709551616)) rfl) ?_
  refine w_done ?_
  refine w_sl 6 (.int .u64 0) rfl ?_
  refine w_sl 7 (.int .u64 (ior .u64 ((hi * 2 ^ shn .u64 (w64 (64 - n))) % 18446744073709551616) (lo / 2 ^ shn .u64 n))) rfl ?_
  refine w_sl 8 (.int .u64 (iand .u64 lo ((((1 * 2 ^ shn .u64 n) % 18446744073709551616) - 1) % 18446744073709551616))) rfl ?_
  refine w_sl 9 (.int .u64 ((1 * 2 ^ shn .u64 (w64 (n - 1))) % 18446744073709551616)) rfl ?_
  refine w_sl 10 (.bool false) rfl ?_
  exact turn_rounded.j1_ok (k := k) (hle.trans e7) he
 ·
  refine w_else rfl (decide_eq_false c1) ?_
  refine w_seq ?_
  obtain ⟨c8, he⟩ := rq he
  obtain ⟨c9, he⟩ := rq he
  refine w_drawn (p := 14) (tl := [14]) [[], [], [(1, some 30)], [(0, some 29), (2, some 31)], [], [], [(5, some 34)], [(6, some 35)], [(7, some 36)], [(4, some 33), (8, some 37)], [], [(10, some 39)], [(3, some 32)], [(9, some 38)]] [some 29, some 30, some 31, some 32, some 33, some 34, some 35, some 36, some 37, some 38, some 39, some 40, some 7, some 8] (fctF [.is (.int .u64 hi), .is (.int .i64 n), .is (.int .i64 (w64 (n - 64))), .is (.int .u64 (hi / 2 ^ shn .u64 (w64 (n - 64)))), .is (.int .u64 hi), .is (.int .i64 n), .is (.int .i64 (w64 (n - 64))), .is (.int .u64 ((1 * 2 ^ shn .u64 (w64 (n - 64))) % 18446744073709551616)), .is (.int .u64 ((((1 * 2 ^ shn .u64 (w64 (n - 64))) % 18446744073709551616) - 1) % 18446744073709551616)), .is (.int .u64 (iand .u64 hi ((((1 * 2 ^ shn .u64 (w64 (n - 64))) % 18446744073709551616) - 1) % 18446744073709551616))), .is (.int .u64 lo), .is (.bool (!decide (lo = 0))), .is (.int .u64 (hi / 2 ^ shn .u64 (w64 (n - 64)))), .is (.int .u64 (iand .u64 hi ((((1 * 2 ^ shn .u64 (w64 (n - 64))) % 18446744073709551616) - 1) % 18446744073709551616)))]) (fun m_ => L) (fun _ => none) mixed (by kernel_rfl) (by kernel_rfl) rfl (fct_mono (by kernel_rfl)) ⟨(by intro H' m_ hH hm_ hu_; refine depK_nil ?_; exact s_d (m_ 0) rfl (d_move (v := .int .u64 hi) rfl) (by exact rfl) rfl), (by intro H' m_ hH hm_ hu_; refine depK_nil ?_; exact s_d (m_ 1) rfl (d_move (v := .int .i64 n) rfl) (by exact rfl) rfl), (by intro H' m_ hH hm_ hu_; rintro _ rfl; refine depK_nil ?_; exact s_d (m_ 2) rfl (d_sub (c := w64 (n - 64)) rfl rfl rfl) (by exact rfl) rfl), (by intro H' m_ hH hm_ hu_; rintro _ rfl _ rfl; refine depK_nil ?_; exact s_d (m_ 3) rfl (d_shr (c := hi / 2 ^ shn .u64 (w64 (n - 64))) rfl rfl c8 rfl) (by exact rfl) rfl), (by intro H' m_ hH hm_ hu_; refine depK_nil ?_; exact s_d (m_ 4) rfl (d_move (v := .int .u64 hi) rfl) (by exact rfl) rfl), (by intro H' m_ hH hm_ hu_; refine depK_nil ?_; exact s_d (m_ 5) rfl (d_move (v := .int .i64 n) rfl) (by exact rfl) rfl), (by intro H' m_ hH hm_ hu_; rintro _ rfl; refine depK_nil ?_; exact s_d (m_ 6) rfl (d_sub (c := w64 (n - 64)) rfl rfl rfl) (by exact rfl) rfl), (by intro H' m_ hH hm_ hu_; rintro _ rfl; refine depK_nil ?_; exact s_d (m_ 7) rfl (d_shl (c := (1 * 2 ^ shn .u64 (w64 (n - 64))) % 18446744073709551616) rfl rfl c9 rfl) (by exact rfl) rfl), (by intro H' m_ hH hm_ hu_; rintro _ rfl; refine depK_nil ?_; exact s_d (m_ 8) rfl (d_sub (c := (((1 * 2 ^ shn .u64 (w64 (n - 64))) % 18446744073709551616) - 1) % 18446744073709551616) rfl rfl rfl) (by exact rfl) rfl), (by intro H' m_ hH hm_ hu_; rintro _ rfl _ rfl; refine depK_nil ?_; exact s_d (m_ 9) rfl (d_band rfl rfl) (by exact rfl) rfl), (by intro H' m_ hH hm_ hu_; refine depK_nil ?_; exact s_d (m_ 10) rfl (d_move (v := .int .u64 lo) rfl) (by exact rfl) rfl), (by intro H' m_ hH hm_ hu_; rintro _ rfl; refine depK_nil ?_; exact s_d (m_ 11) rfl (d_neq rfl rfl) (by exact rfl) rfl), (by intro H' m_ hH hm_ hu_; rintro _ rfl; refine depK_nil ?_; exact s_d (m_ 12) rfl (d_assign (v := .int .u64 (hi / 2 ^ shn .u64 (w64 (n - 64)))) rfl) (by exact rfl) rfl), (by intro H' m_ hH hm_ hu_; rintro _ rfl; refine depK_nil ?_; exact s_d (m_ 13) rfl (d_assign (v := .int .u64 (iand .u64 hi ((((1 * 2 ^ shn .u64 (w64 (n - 64))) % 18446744073709551616) - 1) % 18446744073709551616))) rfl) (by exact rfl) rfl), trivial⟩ ?_
  intro H10 e11
  rintro _ _ rfl _ _ rfl _ _ rfl _ _ rfl _ _ rfl _ _ rfl _ _ rfl _ _ rfl _ _ rfl _ _ rfl _ _ rfl _ _ rfl _ _ rfl _ _ rfl
  refine w_d rfl (d_assign (v := .bool (!decide (lo = 0))) rfl) ?_
  refine w_done ?_
  refine w_seq ?_
  refine w_region rfl ?_
  refine w_d rfl (d_move (v := .int .i64 n) rfl) ?_
  refine w_d rfl (d_sub (c := w64 (n - 64)) rfl rfl rfl) ?_
  obtain ⟨c12, he⟩ := rq he
  refine w_d rfl (d_shl (c := (1 * 2 ^ shn .u64 (w64 (n - 64))) % 18446744073709551616) rfl rfl c12 rfl) ?_
  refine w_d rfl (d_shr (c := ((1 * 2 ^ shn .u64 (w64 (n - 64))) % 18446744073709551616) / 2) rfl rfl (by decide) rfl) ?_
  refine w_d rfl (d_assign (v := .int .u64 (((1 * 2 ^ shn .u64 (w64 (n - 64))) % 18446744073709551616) / 2)) rfl) ?_
  refine w_done ?_
  refine w_seq ?_
  refine w_region rfl ?_
  refine w_d rfl (d_move (v := .int .i64 n) rfl) ?_
  refine w_d rfl (d_eql rfl rfl) ?_
  refine w_done ?_
  rcases its he with ⟨c13, he⟩ | ⟨c13, he⟩
  ·
   refine w_then rfl (decide_eq_true c13) ?_
   refine w_region rfl ?_
   refine w_d rfl (d_move (v := .int .u64 lo) rfl) ?_
   refine w_d rfl (d_assign (v := .int .u64 lo) rfl) ?_
   refine w_d rfl (d_assign (v := .int .u64 9223372036854775808) rfl) ?_
   refine w_d rfl (d_assign (v := .bool false) rfl) ?_
   refine w_done ?_
   refine w_sl 6 (.int .u64 0) rfl ?_
   refine w_sl 7 (.int .u64 (hi / 2 ^ shn .u64 (w64 (n - 64)))) rfl ?_
   refine w_sl 8 (.int .u64 lo) rfl ?_
   refine w_sl 9 (.int .u64 9223372036854775808) rfl ?_
   refine w_sl 10 (.bool false) rfl ?_
   exact turn_rounded.j1_ok (k := k) (hle.trans e11) he
  ·
   refine w_else rfl (decide_eq_false c13) ?_
   refine w_skip ?_
   refine w_sl 6 (.int .u64 0) rfl ?_
   refine w_sl 7 (.int .u64 (hi / 2 ^ shn .u64 (w64 (n - 64)))) rfl ?_
   refine w_sl 8 (.int .u64 (iand .u64 hi ((((1 * 2 ^ shn .u64 (w64 (n - 64))) % 18446744073709551616) - 1) % 18446744073709551616))) rfl ?_
   refine w_sl 9 (.int .u64 (((1 * 2 ^ shn .u64 (w64 (n - 64))) % 18446744073709551616) / 2)) rfl ?_
   refine w_sl 10 (.bool (!decide (lo = 0))) rfl ?_
   exact turn_rounded.j1_ok (k := k) (hle.trans e11) he
/-! ### radome/turn.Radians -/
noncomputable def turn_Radians.C : Code := (Tryd.f16.body).getD .skip
def turn_Radians.out (r : Int × (Option Int)) (H : Hp) (v : Value) : Prop := v = .tuple ⟨[.int .i64 r.1, errV 70 r.2]⟩
abbrev turn_Radians.R (H0 : Hp) (L : Items) (r : Int × (Option Int)) : Value → Hp → Items → Prop := fun v H' L' => (∃ p, L' = p ++ L) ∧ H0.le H' ∧ turn_Radians.out r H' v
noncomputable def turn_Radians.f (k : Nat) (t : Int) (point : Int) : Option (Int × (Option Int)) := if ((decide (point < 0)) || (decide (60 < point))) = true then (some (0, some 1)) else ((bits_Mul64.f k ((t) % 18446744073709551616) 3622009729038561421).bind fun y4 => (turn_rounded.f k y4.1 y4.2 (w64 (91 - point))).bind fun y8 => some (w64 (y8), none))
theorem turn_Radians.mono : ∀ k y0 y1, LeO (turn_Radians.f k y0 y1) (turn_Radians.f (k + 1) y0 y1) := fun k _ _ => by unfold turn_Radians.f; exact (LeO.ite (LeO.refl _) (LeO.bind (bits_Mul64.mono k _ _) fun _ => LeO.bind (turn_rounded.mono k _ _ _) fun _ => LeO.refl _))
set_option maxRecDepth 100000 in
set_option maxHeartbeats 2000000 in
theorem turn_Radians.calls (k : Nat) {H : Hp} {L : Items} {t : Int} {point : Int} {r : Int × (Option Int)} (he : turn_Radians.f k t point = some r) : Ct Tryd.prog 16 ⟨[.int .u32 t, .int .i64 point]⟩ H L (fun v H' L' => L = L' ∧ H = H' ∧ v = .tuple ⟨[.int .i64 r.1, errV 70 r.2]⟩) := by
 refine ct_outs (O := turn_Radians.out r) (fun _ _ h => h) ?_
 have hle : H.le H := .refl _
 unfold turn_Radians.f at he
 refine ct_enter (args := [.int .u32 t, .int .i64 point]) fn_16 rfl nt_16 rfl ?_
 refine w_seq ?_
 refine w_region rfl ?_
 refine w_d rfl (d_assign (v := .int .i64 0) rfl) ?_
 refine w_d rfl (d_assign (v := errV 70 none) rfl) ?_
 refine w_done ?_
 refine w_seq ?_
 refine w_seq ?_
 refine w_region rfl ?_
 refine w_d rfl (d_move (v := .int .i64 point) rfl) ?_
 refine w_d rfl (d_lss rfl rfl) ?_
 refine w_d rfl (d_move (v := .bool (decide (point < 0))) rfl) ?_
 refine w_g (g := !(decide (point < 0))) rfl rfl rfl wn_f (fun g1 => d_move (v := .int .i64 point) rfl) ?_
 refine w_g (g := !(decide (point < 0))) rfl rfl rfl wn_f (fun g2 => d_gtr (cvt g2) rfl) ?_
 refine w_d rfl (d_or' (b := (decide (point < 0))) (p := (decide (60 < point))) rfl rfl rfl) ?_
 refine w_done ?_
 rcases its he with ⟨c3, he⟩ | ⟨c3, he⟩
 ·
  refine w_then rfl c3 ?_
  refine w_seq ?_
  refine w_region rfl ?_
  refine w_d rfl (d_iface (v := .int .i64 1) Tryd.underlying70 rfl rfl) ?_
  refine w_d rfl (d_assign (v := .int .i64 0) rfl) ?_
  refine w_d rfl (d_assign (v := errV 70 (some 1)) rfl) ?_
  refine w_done ?_
  obtain rfl := Option.some.inj he
  refine w_return fn_16 rs_16 (.tmp (v := .int .i64 0) rfl (.tmp (v := errV 70 (some 1)) rfl .nil)) ?_
  exact ⟨⟨[], rfl⟩, hle, rfl⟩
 ·
  refine w_else rfl (Bool.eq_false_iff.2 c3) ?_
  refine w_skip ?_
  refine w_seq ?_
  refine w_region rfl ?_
  refine w_d rfl (d_move (v := .int .u32 t) rfl) ?_
  refine w_d rfl (d_conv (c := (t) % 18446744073709551616) Tryd.underlying39 Tryd.underlying74 rfl rfl) ?_
  obtain ⟨y4, hy5, he⟩ := Option.bind_eq_some_iff.1 he
  refine w_d rfl (call_d (o_call co37 (vs := [.int .u64 ((t) % 18446744073709551616), .int .u64 3622009729038561421]) rfl (bits_Mul64.calls k hy5))) ?_
  refine w_d rfl (d_move (v := .tuple ⟨[.int .u64 y4.1, .int .u64 y4.2]⟩) rfl) ?_
  refine w_d rfl (d_ext (vs := [.int .u64 y4.1, .int .u64 y4.2]) rfl rfl) ?_
  refine w_d rfl (d_ext (vs := [.int .u64 y4.1, .int .u64 y4.2]) rfl rfl) ?_
  refine w_d rfl (d_assign (v := .int .u64 y4.1) rfl) ?_
  refine w_d rfl (d_assign (v := .int .u64 y4.2) rfl) ?_
  refine w_done ?_
  refine w_seq ?_
  refine w_region rfl ?_
  refine w_d rfl (d_move (v := .int .u64 y4.1) rfl) ?_
  refine w_d rfl (d_move (v := .int .u64 y4.2) rfl) ?_
  refine w_d rfl (d_move (v := .int .i64 point) rfl) ?_
  refine w_d rfl (d_sub (c := w64 (91 - point)) rfl rfl rfl) ?_
  obtain ⟨y8, hy9, he⟩ := Option.bind_eq_some_iff.1 he
  refine w_d rfl (call_d (o_call co38 (vs := [.int .u64 y4.1, .int .u64 y4.2, .int .i64 (w64 (91 - point))]) rfl (turn_rounded.calls k hy9))) ?_
  refine w_d rfl (d_conv (c := w64 (y8)) Tryd.underlying74 Tryd.underlying2 rfl rfl) ?_
  refine w_d rfl (d_assign (v := .int .i64 (w64 (y8))) rfl) ?_
  refine w_d rfl (d_assign (v := errV 70 none) rfl) ?_
  refine w_done ?_
  obtain rfl := Option.some.inj he
  refine w_return fn_16 rs_16 (.tmp (v := .int .i64 (w64 (y8))) rfl (.tmp (v := errV 70 none) rfl .nil)) ?_
  exact ⟨⟨[], rfl⟩, hle, rfl⟩
/-! ### radome/turn.Of -/
noncomputable def turn_Of.C : Code := (Tryd.f39.body).getD .skip
def turn_Of.out (r : Int) (H : Hp) (v : Value) : Prop := v = .int .u32 r
abbrev turn_Of.R (H0 : Hp) (L : Items) (r : Int) : Value → Hp → Items → Prop := fun v H' L' => (∃ p, L' = p ++ L) ∧ H0.le H' ∧ turn_Of.out r H' v
noncomputable def turn_Of.f (k : Nat) (a : Int) : Option Int := some ((((a) % 4294967296) * 65536) % 4294967296)
theorem turn_Of.mono : ∀ k y0, LeO (turn_Of.f k y0) (turn_Of.f (k + 1) y0) := fun k _ => by unfold turn_Of.f; exact (LeO.refl _)
set_option maxRecDepth 100000 in
set_option maxHeartbeats 2000000 in
theorem turn_Of.calls (k : Nat) {H : Hp} {L : Items} {a : Int} {r : Int} (he : turn_Of.f k a = some r) : Ct Tryd.prog 39 ⟨[.int .u16 a]⟩ H L (fun v H' L' => L = L' ∧ H = H' ∧ v = .int .u32 r) := by
 refine ct_outs (O := turn_Of.out r) (fun _ _ h => h) ?_
 have hle : H.le H := .refl _
 unfold turn_Of.f at he
 refine ct_enter (args := [.int .u16 a]) fn_39 rfl nt_39 rfl ?_
 refine w_seq ?_
 refine w_region rfl ?_
 refine w_d rfl (d_assign (v := .int .u32 0) rfl) ?_
 refine w_done ?_
 refine w_seq ?_
 refine w_region rfl ?_
 refine w_d rfl (d_move (v := .int .u16 a) rfl) ?_
 refine w_d rfl (d_conv (c := (a) % 4294967296) Tryd.underlying79 Tryd.underlying39 rfl rfl) ?_
 refine w_d rfl (d_shl (c := (((a) % 4294967296) * 65536) % 4294967296) rfl rfl (by decide) rfl) ?_
 refine w_d rfl (d_assign (v := .int .u32 ((((a) % 4294967296) * 65536) % 4294967296)) rfl) ?_
 refine w_done ?_
 obtain rfl := Option.some.inj he
 refine w_return fn_39 rs_39 (.tmp (v := .int .u32 ((((a) % 4294967296) * 65536) % 4294967296)) rfl .nil) ?_
 exact ⟨⟨[], rfl⟩, hle, rfl⟩
/-! ### radome/turn.From -/
noncomputable def turn_From.C : Code := (Tryd.f40.body).getD .skip
def turn_From.out (r : Int) (H : Hp) (v : Value) : Prop := v = .int .i32 r
abbrev turn_From.R (H0 : Hp) (L : Items) (r : Int) : Value → Hp → Items → Prop := fun v H' L' => (∃ p, L' = p ++ L) ∧ H0.le H' ∧ turn_From.out r H' v
noncomputable def turn_From.f (k : Nat) (a : Int) (b : Int) : Option Int := some (w32 ((a - b) % 4294967296))
theorem turn_From.mono : ∀ k y0 y1, LeO (turn_From.f k y0 y1) (turn_From.f (k + 1) y0 y1) := fun k _ _ => by unfold turn_From.f; exact (LeO.refl _)
set_option maxRecDepth 100000 in
set_option maxHeartbeats 2000000 in
theorem turn_From.calls (k : Nat) {H : Hp} {L : Items} {a : Int} {b : Int} {r : Int} (he : turn_From.f k a b = some r) : Ct Tryd.prog 40 ⟨[.int .u32 a, .int .u32 b]⟩ H L (fun v H' L' => L = L' ∧ H = H' ∧ v = .int .i32 r) := by
 refine ct_outs (O := turn_From.out r) (fun _ _ h => h) ?_
 have hle : H.le H := .refl _
 unfold turn_From.f at he
 refine ct_enter (args := [.int .u32 a, .int .u32 b]) fn_40 rfl nt_40 rfl ?_
 refine w_seq ?_
 refine w_region rfl ?_
 refine w_d rfl (d_assign (v := .int .i32 0) rfl) ?_
 refine w_done ?_
 refine w_seq ?_
 refine w_region rfl ?_
 refine w_d rfl (d_move (v := .int .u32 a) rfl) ?_
 refine w_d rfl (d_move (v := .int .u32 b) rfl) ?_
 refine w_d rfl (d_sub (c := (a - b) % 4294967296) rfl rfl rfl) ?_
 refine w_d rfl (d_conv (c := w32 ((a - b) % 4294967296)) Tryd.underlying39 Tryd.underlying21 rfl rfl) ?_
 refine w_d rfl (d_assign (v := .int .i32 (w32 ((a - b) % 4294967296))) rfl) ?_
 refine w_done ?_
 obtain rfl := Option.some.inj he
 refine w_return fn_40 rs_40 (.tmp (v := .int .i32 (w32 ((a - b) % 4294967296))) rfl .nil) ?_
 exact ⟨⟨[], rfl⟩, hle, rfl⟩
/-! ### radome/turn.Between -/
noncomputable def turn_Between.C : Code := (Tryd.f41.body).getD .skip
def turn_Between.out (r : Bool) (H : Hp) (v : Value) : Prop := v = .bool r
abbrev turn_Between.R (H0 : Hp) (L : Items) (r : Bool) : Value → Hp → Items → Prop := fun v H' L' => (∃ p, L' = p ++ L) ∧ H0.le H' ∧ turn_Between.out r H' v
noncomputable def turn_Between.f (k : Nat) (t : Int) (from_ : Int) (to_ : Int) : Option Bool := some (decide (((t - from_) % 4294967296) ≤ ((to_ - from_) % 4294967296)))
theorem turn_Between.mono : ∀ k y0 y1 y2, LeO (turn_Between.f k y0 y1 y2) (turn_Between.f (k + 1) y0 y1 y2) := fun k _ _ _ => by unfold turn_Between.f; exact (LeO.refl _)
set_option maxRecDepth 100000 in
set_option maxHeartbeats 2000000 in
theorem turn_Between.calls (k : Nat) {H : Hp} {L : Items} {t : Int} {from_ : Int} {to_ : Int} {r : Bool} (he : turn_Between.f k t from_ to_ = some r) : Ct Tryd.prog 41 ⟨[.int .u32 t, .int .u32 from_, .int .u32 to_]⟩ H L (fun v H' L' => L = L' ∧ H = H' ∧ v = .bool r) := by
 refine ct_outs (O := turn_Between.out r) (fun _ _ h => h) ?_
 have hle : H.le H := .refl _
 unfold turn_Between.f at he
 refine ct_enter (args := [.int .u32 t, .int .u32 from_, .int .u32 to_]) fn_41 rfl nt_41 rfl ?_
 refine w_seq ?_
 refine w_region rfl ?_
 refine w_d rfl (d_assign (v := .bool false) rfl) ?_
 refine w_done ?_
 refine w_seq ?_
 refine w_region rfl ?_
 refine w_d rfl (d_move (v := .int .u32 t) rfl) ?_
 refine w_d rfl (d_move (v := .int .u32 from_) rfl) ?_
 refine w_d rfl (d_sub (c := (t - from_) % 4294967296) rfl rfl rfl) ?_
 refine w_d rfl (d_move (v := .int .u32 to_) rfl) ?_
 refine w_d rfl (d_move (v := .int .u32 from_) rfl) ?_
 refine w_d rfl (d_sub (c := (to_ - from_) % 4294967296) rfl rfl rfl) ?_
 refine w_d rfl (d_leq rfl rfl) ?_
 refine w_d rfl (d_assign (v := .bool (decide (((t - from_) % 4294967296) ≤ ((to_ - from_) % 4294967296)))) rfl) ?_
 refine w_done ?_
 obtain rfl := Option.some.inj he
 refine w_return fn_41 rs_41 (.tmp (v := .bool (decide (((t - from_) % 4294967296) ≤ ((to_ - from_) % 4294967296)))) rfl .nil) ?_
 exact ⟨⟨[], rfl⟩, hle, rfl⟩
/-! ### radome/turn.Middle -/
noncomputable def turn_Middle.C : Code := (Tryd.f42.body).getD .skip
def turn_Middle.out (r : Int) (H : Hp) (v : Value) : Prop := v = .int .u32 r
abbrev turn_Middle.R (H0 : Hp) (L : Items) (r : Int) : Value → Hp → Items → Prop := fun v H' L' => (∃ p, L' = p ++ L) ∧ H0.le H' ∧ turn_Middle.out r H' v
noncomputable def turn_Middle.f (k : Nat) (from_ : Int) (to_ : Int) : Option Int := some ((from_ + ((Int.tdiv ((to_ - from_) % 4294967296) 2) % 4294967296)) % 4294967296)
theorem turn_Middle.mono : ∀ k y0 y1, LeO (turn_Middle.f k y0 y1) (turn_Middle.f (k + 1) y0 y1) := fun k _ _ => by unfold turn_Middle.f; exact (LeO.refl _)
set_option maxRecDepth 100000 in
set_option maxHeartbeats 2000000 in
theorem turn_Middle.calls (k : Nat) {H : Hp} {L : Items} {from_ : Int} {to_ : Int} {r : Int} (he : turn_Middle.f k from_ to_ = some r) : Ct Tryd.prog 42 ⟨[.int .u32 from_, .int .u32 to_]⟩ H L (fun v H' L' => L = L' ∧ H = H' ∧ v = .int .u32 r) := by
 refine ct_outs (O := turn_Middle.out r) (fun _ _ h => h) ?_
 have hle : H.le H := .refl _
 unfold turn_Middle.f at he
 refine ct_enter (args := [.int .u32 from_, .int .u32 to_]) fn_42 rfl nt_42 rfl ?_
 refine w_seq ?_
 refine w_region rfl ?_
 refine w_d rfl (d_assign (v := .int .u32 0) rfl) ?_
 refine w_done ?_
 refine w_seq ?_
 refine w_region rfl ?_
 refine w_d rfl (d_move (v := .int .u32 from_) rfl) ?_
 refine w_d rfl (d_move (v := .int .u32 to_) rfl) ?_
 refine w_d rfl (d_move (v := .int .u32 from_) rfl) ?_
 refine w_d rfl (d_sub (c := (to_ - from_) % 4294967296) rfl rfl rfl) ?_
 refine w_d rfl (d_quo (c := (Int.tdiv ((to_ - from_) % 4294967296) 2) % 4294967296) rfl rfl (by decide) rfl) ?_
 refine w_d rfl (d_add (c := (from_ + ((Int.tdiv ((to_ - from_) % 4294967296) 2) % 4294967296)) % 4294967296) rfl rfl rfl) ?_
 refine w_d rfl (d_assign (v := .int .u32 ((from_ + ((Int.tdiv ((to_ - from_) % 4294967296) 2) % 4294967296)) % 4294967296)) rfl) ?_
 refine w_done ?_
 obtain rfl := Option.some.inj he
 refine w_return fn_42 rs_42 (.tmp (v := .int .u32 ((from_ + ((Int.tdiv ((to_ - from_) % 4294967296) 2) % 4294967296)) % 4294967296)) rfl .nil) ?_
 exact ⟨⟨[], rfl⟩, hle, rfl⟩
/-! ### radome/radomelaw04.sure -/
noncomputable def radomelaw04_sure.C : Code := (Tryd.f18.body).getD .skip
def radomelaw04_sure.out (r : Bool) (H : Hp) (v : Value) : Prop := v = .bool r
abbrev radomelaw04_sure.R (H0 : Hp) (L : Items) (r : Bool) : Value → Hp → Items → Prop := fun v H' L' => (∃ p, L' = p ++ L) ∧ H0.le H' ∧ radomelaw04_sure.out r H' v
noncomputable def radomelaw04_sure.f (k : Nat)  : Option Bool := (turn_Radians.f k 2147483648 30).bind fun y1 => (gd (y1.2.isNone && (decide (y1.1 = 3373259426))) (turn_Of.f k 16384) (0)).bind fun y8 => (gd ((y1.2.isNone && (decide (y1.1 = 3373259426))) && (decide (y8 = 1073741824))) (turn_From.f k 0 4294967295) (0)).bind fun y14 => (gd (((y1.2.isNone && (decide (y1.1 = 3373259426))) && (decide (y8 = 1073741824))) && (decide (y14 = 1))) (turn_Between.f k 5 3 9) (false)).bind fun y20 => (gd ((((y1.2.isNone && (decide (y1.1 = 3373259426))) && (decide (y8 = 1073741824))) && (decide (y14 = 1))) && y20) (turn_Middle.f k 2 6) (0)).bind fun y25 => some (((((y1.2.isNone && (decide (y1.1 = 3373259426))) && (decide (y8 = 1073741824))) && (decide (y14 = 1))) && y20) && (decide (y25 = 4)))
theorem radomelaw04_sure.mono : ∀ k, LeO (radomelaw04_sure.f k) (radomelaw04_sure.f (k + 1)) := fun k => by unfold radomelaw04_sure.f; exact (LeO.bind (turn_Radians.mono k _ _) fun _ => LeO.bind (LeO.gd (turn_Of.mono k _)) fun _ => LeO.bind (LeO.gd (turn_From.mono k _ _)) fun _ => LeO.bind (LeO.gd (turn_Between.mono k _ _ _)) fun _ => LeO.bind (LeO.gd (turn_Middle.mono k _ _)) fun _ => LeO.refl _)
set_option maxRecDepth 100000 in
set_option maxHeartbeats 2000000 in
theorem radomelaw04_sure.calls (k : Nat) {H : Hp} {L : Items} {r : Bool} (he : radomelaw04_sure.f k  = some r) : Ct Tryd.prog 18 ⟨[]⟩ H L (fun v H' L' => L = L' ∧ H = H' ∧ v = .bool r) := by
 refine ct_outs (O := radomelaw04_sure.out r) (fun _ _ h => h) ?_
 have hle : H.le H := .refl _
 unfold radomelaw04_sure.f at he
 refine ct_enter (args := []) fn_18 rfl nt_18 rfl ?_
 refine w_seq ?_
 refine w_region rfl ?_
 refine w_d rfl (d_assign (v := .bool false) rfl) ?_
 refine w_done ?_
 refine w_seq ?_
 refine w_region rfl ?_
 obtain ⟨y1, hy2, he⟩ := Option.bind_eq_some_iff.1 he
 refine w_d rfl (call_d (o_call co16 (vs := [.int .u32 2147483648, .int .i64 30]) rfl (turn_Radians.calls k hy2))) ?_
 refine w_d rfl (d_move (v := .tuple ⟨[.int .i64 y1.1, errV 70 y1.2]⟩) rfl) ?_
 refine w_d rfl (d_ext (vs := [.int .i64 y1.1, errV 70 y1.2]) rfl rfl) ?_
 refine w_d rfl (d_ext (vs := [.int .i64 y1.1, errV 70 y1.2]) rfl rfl) ?_
 refine w_d rfl (d_assign (v := .int .i64 y1.1) rfl) ?_
 refine w_d rfl (d_assign (v := errV 70 y1.2) rfl) ?_
 refine w_done ?_
 refine w_seq ?_
 refine w_region rfl ?_
 refine w_d rfl (d_move (v := errV 70 y1.2) rfl) ?_
 refine w_d rfl (d_eqnil (e := y1.2) Tryd.underlying24 rfl) ?_
 refine w_d rfl (d_move (v := .bool y1.2.isNone) rfl) ?_
 refine w_g (g := y1.2.isNone) rfl rfl rfl wn_t (fun g5 => d_move (v := .int .i64 y1.1) rfl) ?_
 refine w_g (g := y1.2.isNone) rfl rfl rfl wn_t (fun g6 => d_eql (cvt g6) rfl) ?_
 refine w_d rfl (d_and' (b := y1.2.isNone) (p := (decide (y1.1 = 3373259426))) rfl rfl rfl) ?_
 refine w_d rfl (d_move (v := .bool (y1.2.isNone && (decide (y1.1 = 3373259426)))) rfl) ?_
 obtain ⟨y8, hy9, he⟩ := Option.bind_eq_some_iff.1 he
 refine w_g (g := y1.2.isNone && (decide (y1.1 = 3373259426))) rfl rfl rfl wn_t (fun g7 => call_d (o_call co39 (vs := [.int .u16 16384]) rfl (turn_Of.calls k (gd_t g7 hy9)))) ?_
 refine w_g (g := y1.2.isNone && (decide (y1.1 = 3373259426))) rfl rfl rfl wn_t (fun g12 => d_eql (cvt g12) rfl) ?_
 refine w_d rfl (d_and' (b := (y1.2.isNone && (decide (y1.1 = 3373259426)))) (p := (decide (y8 = 1073741824))) rfl rfl rfl) ?_
 refine w_d rfl (d_move (v := .bool ((y1.2.isNone && (decide (y1.1 = 3373259426))) && (decide (y8 = 1073741824)))) rfl) ?_
 obtain ⟨y14, hy15, he⟩ := Option.bind_eq_some_iff.1 he
 refine w_g (g := (y1.2.isNone && (decide (y1.1 = 3373259426))) && (decide (y8 = 1073741824))) rfl rfl rfl wn_t (fun g13 => call_d (o_call co40 (vs := [.int .u32 0, .int .u32 4294967295]) rfl (turn_From.calls k (gd_t g13 hy15)))) ?_
 refine w_g (g := (y1.2.isNone && (decide (y1.1 = 3373259426))) && (decide (y8 = 1073741824))) rfl rfl rfl wn_t (fun g18 => d_eql (cvt g18) rfl) ?_
 refine w_d rfl (d_and' (b := ((y1.2.isNone && (decide (y1.1 = 3373259426))) && (decide (y8 = 1073741824)))) (p := (decide (y14 = 1))) rfl rfl rfl) ?_
 refine w_d rfl (d_move (v := .bool (((y1.2.isNone && (decide (y1.1 = 3373259426))) && (decide (y8 = 1073741824))) && (decide (y14 = 1)))) rfl) ?_
 obtain ⟨y20, hy21, he⟩ := Option.bind_eq_some_iff.1 he
 refine w_g (g := ((y1.2.isNone && (decide (y1.1 = 3373259426))) && (decide (y8 = 1073741824))) && (decide (y14 = 1))) rfl rfl rfl wn_t (fun g19 => call_d (o_call co41 (vs := [.int .u32 5, .int .u32 3, .int .u32 9]) rfl (turn_Between.calls k (gd_t g19 hy21)))) ?_
 refine w_d rfl (d_and' (b := (((y1.2.isNone && (decide (y1.1 = 3373259426))) && (decide (y8 = 1073741824))) && (decide (y14 = 1)))) (p := y20) rfl rfl rfl) ?_
 refine w_d rfl (d_move (v := .bool ((((y1.2.isNone && (decide (y1.1 = 3373259426))) && (decide (y8 = 1073741824))) && (decide (y14 = 1))) && y20)) rfl) ?_
 obtain ⟨y25, hy26, he⟩ := Option.bind_eq_some_iff.1 he
 refine w_g (g := (((y1.2.isNone && (decide (y1.1 = 3373259426))) && (decide (y8 = 1073741824))) && (decide (y14 = 1))) && y20) rfl rfl rfl wn_t (fun g24 => call_d (o_call co42 (vs := [.int .u32 2, .int .u32 6]) rfl (turn_Middle.calls k (gd_t g24 hy26)))) ?_
 refine w_g (g := (((y1.2.isNone && (decide (y1.1 = 3373259426))) && (decide (y8 = 1073741824))) && (decide (y14 = 1))) && y20) rfl rfl rfl wn_t (fun g29 => d_eql (cvt g29) rfl) ?_
 refine w_d rfl (d_and' (b := ((((y1.2.isNone && (decide (y1.1 = 3373259426))) && (decide (y8 = 1073741824))) && (decide (y14 = 1))) && y20)) (p := (decide (y25 = 4))) rfl rfl rfl) ?_
 refine w_d rfl (d_assign (v := .bool (((((y1.2.isNone && (decide (y1.1 = 3373259426))) && (decide (y8 = 1073741824))) && (decide (y14 = 1))) && y20) && (decide (y25 = 4)))) rfl) ?_
 refine w_done ?_
 obtain rfl := Option.some.inj he
 refine w_return fn_18 rs_18 (.tmp (v := .bool (((((y1.2.isNone && (decide (y1.1 = 3373259426))) && (decide (y8 = 1073741824))) && (decide (y14 = 1))) && y20) && (decide (y25 = 4)))) rfl .nil) ?_
 exact ⟨⟨[], rfl⟩, hle, rfl⟩
/-! ### radome/radomeref01.Of -/
noncomputable def radomeref01_Of.C : Code := (Tryd.f22.body).getD .skip
def radomeref01_Of.out (r : radomeref01_Num) (H : Hp) (v : Value) : Prop := ∃ v0, v = .agg ⟨[.bool r.f_Neg, v0]⟩ ∧ Ro (Kd.int .i64) H v0 r.f_D
theorem radomeref01_Of.out_mono (r : radomeref01_Num) {H H' : Hp} {v : Value} (hle : H.le H') (h : radomeref01_Of.out r H v) : radomeref01_Of.out r H' v := by
 obtain ⟨v0, rfl, h0⟩ := h; exact ⟨v0, rfl, h0.mono hle⟩
abbrev radomeref01_Of.R (H0 : Hp) (L : Items) (r : radomeref01_Num) : Value → Hp → Items → Prop := fun v H' L' => (∃ p, L' = p ++ L) ∧ H0.le H' ∧ radomeref01_Of.out r H' v
structure radomeref01_Of.Hs where
 l0 : Int → Int → (List Int) → Option radomeref01_Num
noncomputable def radomeref01_Of.j1 (k : Nat) (h : radomeref01_Of.Hs)  (n : Int) (v_ : Int) : Option radomeref01_Num := h.l0 n v_ []
noncomputable def radomeref01_Of.b0 (k : Nat) (h : radomeref01_Of.Hs)  (n : Int) (v_ : Int) (d : List Int) : Option radomeref01_Num := if 0 < v_ then (if d.length + 1 ≤ 17592186044288 then (h.l0 n ((Int.tdiv v_ 10) % 18446744073709551616) (d ++ [w64 (Int.tmod v_ 10)])) else none) else (some ((⟨decide (n < 0), d⟩ : radomeref01_Num)))
noncomputable def radomeref01_Of.hs : Nat → radomeref01_Of.Hs
 | 0 => ⟨fun _ _ _ => none⟩
 | k + 1 => ⟨fun x0 x1 x2 => radomeref01_Of.b0 k (radomeref01_Of.hs k) x0 x1 x2⟩
noncomputable def radomeref01_Of.f (k : Nat) (n : Int) : Option radomeref01_Num := (fun h : radomeref01_Of.Hs => if n < 0 then (radomeref01_Of.j1 k h n ((0 - ((n) % 18446744073709551616)) % 18446744073709551616)) else (radomeref01_Of.j1 k h n ((n) % 18446744073709551616))) (radomeref01_Of.hs k)
structure radomeref01_Of.LE (h h' : radomeref01_Of.Hs) : Prop where
 l0 : ∀ y0 y1 y2, LeO (h.l0 y0 y1 y2) (h'.l0 y0 y1 y2)
theorem radomeref01_Of.j1_mono {k : Nat} {h h' : radomeref01_Of.Hs} (hl : radomeref01_Of.LE h h') : ∀ y0 y1, LeO (radomeref01_Of.j1 k h y0 y1) (radomeref01_Of.j1 (k + 1) h' y0 y1) := fun _ _ => (hl.l0 _ _ _)
theorem radomeref01_Of.b0_mono {k : Nat} {h h' : radomeref01_Of.Hs} (hl : radomeref01_Of.LE h h') : ∀ y0 y1 y2, LeO (radomeref01_Of.b0 k h y0 y1 y2) (radomeref01_Of.b0 (k + 1) h' y0 y1 y2) := fun _ _ _ => (LeO.ite (LeO.ite (hl.l0 _ _ _) (LeO.refl _)) (LeO.refl _))
theorem radomeref01_Of.hs_mono : ∀ k, radomeref01_Of.LE (radomeref01_Of.hs k) (radomeref01_Of.hs (k + 1))
 | 0 => ⟨fun _ _ _ => LeO.none _⟩
 | k + 1 => ⟨radomeref01_Of.b0_mono (k := k) (radomeref01_Of.hs_mono k)⟩
theorem radomeref01_Of.mono : ∀ k y0, LeO (radomeref01_Of.f k y0) (radomeref01_Of.f (k + 1) y0) := fun k _ => have hl := radomeref01_Of.hs_mono k; by unfold radomeref01_Of.f; exact (LeO.ite (radomeref01_Of.j1_mono (k := k) hl _ _) (radomeref01_Of.j1_mono (k := k) hl _ _))
noncomputable def radomeref01_Of.Kj1 : List Item := .code (seqR (seqR (seqR radomeref01_Of.C))) :: []
noncomputable def radomeref01_Of.Kl0 : List Item := .code (lopB (blkB (seqL (seqR (seqR (seqR (seqR radomeref01_Of.C))))))) :: .inLoop (lopB (blkB (seqL (seqR (seqR (seqR (seqR radomeref01_Of.C))))))) :: .inBlock 0 :: .code (seqR (seqR (seqR (seqR (seqR radomeref01_Of.C))))) :: []
structure radomeref01_Of.OK (h : radomeref01_Of.Hs) : Prop where
 l0 : ∀ {H0 H : Hp} {L : Items} {r : radomeref01_Num} {jk_ : Nat → Value} {n : Int} {v_ : Int} {d : List Int} {v_d : Value} {i_d : Item'} {b_t2 : Nat} (_ : H0.le H) (_he : h.l0 n v_ d = some r) (_h_d : Sl (Kd.int .i64) H 3 i_d v_d d), Wp Tryd.prog 22 25 radomeref01_Of.Kl0 (upd (upd (upd (upd jk_ 0 (.int .i64 n)) 2 (.pointer (some ⟨b_t2, 0, none⟩))) 3 (.int .u64 v_)) 4 (v_d)) H (i_d :: some (b_t2, .cells ⟨[.bool false, .slice none 0 0]⟩ 43 (0, 0)) :: L) (radomeref01_Of.R H0 L r)
set_option maxRecDepth 100000 in
set_option maxHeartbeats 2000000 in
theorem radomeref01_Of.j1_ok {k : Nat} {h : radomeref01_Of.Hs} (hh : radomeref01_Of.OK h) {H0 H : Hp} {L : Items} {r : radomeref01_Num} {jk_ : Nat → Value} {n : Int} {v_ : Int} {b_t2 : Nat} (hle : H0.le H) (he : radomeref01_Of.j1 k h n v_ = some r) : Wp Tryd.prog 22 25 radomeref01_Of.Kj1 (upd (upd (upd jk_ 0 (.int .i64 n)) 2 (.pointer (some ⟨b_t2, 0, none⟩))) 3 (.int .u64 v_)) H (some (b_t2, .cells ⟨[.bool false, .slice none 0 0]⟩ 43 (0, 0)) :: L) (radomeref01_Of.R H0 L r) := by
 unfold radomeref01_Of.j1 at he
 unfold radomeref01_Of.Kj1
 refine w_seq ?_
 refine w_region rfl ?_
 refine w_d rfl (d_assign (v := .slice none 0 0) rfl) ?_
 refine w_done ?_
 refine w_seq ?_
 refine w_block ?_
 refine w_loop ?_
 refine w_none ?_
 refine w_sl 0 (.int .i64 n) rfl ?_
 refine w_sl 2 (.pointer (some ⟨b_t2, 0, none⟩)) rfl ?_
 refine w_sl 3 (.int .u64 v_) rfl ?_
 refine w_sl 4 (.slice none 0 0) rfl ?_
 exact hh.l0 hle he (sl_nil _ _ _)
set_option maxRecDepth 100000 in
set_option maxHeartbeats 2000000 in
theorem radomeref01_Of.b0_ok {k : Nat} {h : radomeref01_Of.Hs} (hh : radomeref01_Of.OK h) {H0 H : Hp} {L : Items} {r : radomeref01_Num} {jk_ : Nat → Value} {n : Int} {v_ : Int} {d : List Int} {v_d : Value} {i_d : Item'} {b_t2 : Nat} (hle : H0.le H) (he : radomeref01_Of.b0 k h n v_ d = some r) (h_d : Sl (Kd.int .i64) H 3 i_d v_d d) : Wp Tryd.prog 22 25 radomeref01_Of.Kl0 (upd (upd (upd (upd jk_ 0 (.int .i64 n)) 2 (.pointer (some ⟨b_t2, 0, none⟩))) 3 (.int .u64 v_)) 4 (v_d)) H (i_d :: some (b_t2, .cells ⟨[.bool false, .slice none 0 0]⟩ 43 (0, 0)) :: L) (radomeref01_Of.R H0 L r) := by
 unfold radomeref01_Of.b0 at he
 unfold radomeref01_Of.Kl0
 refine w_seq ?_
 refine w_seq ?_
 refine w_region rfl ?_
 refine w_d rfl (d_move (v := .int .u64 v_) rfl) ?_
 refine w_d rfl (d_gtr rfl rfl) ?_
 refine w_done ?_
 rcases its he with ⟨c3, he⟩ | ⟨c3, he⟩
 ·
  refine w_then rfl (decide_eq_true c3) ?_
  refine w_skip ?_
  refine w_block ?_
  refine w_seq ?_
  refine w_region rfl ?_
  refine w_d rfl (d_move (v := v_d) rfl) ?_
  refine w_d rfl (d_move (v := .int .u64 v_) rfl) ?_
  refine w_d rfl (d_rem rfl rfl (by decide)) ?_
  refine w_d rfl (d_conv (c := w64 (Int.tmod v_ 10)) Tryd.underlying74 Tryd.underlying3 rfl rfl) ?_
  refine w_a rfl (o_buildSlice' (kd := (Kd.int .i64)) (css := [[.int .i64 (w64 (Int.tmod v_ 10))]]) (xs := [w64 (Int.tmod v_ 10)]) (parts := [(0, .int .i64 (w64 (Int.tmod v_ 10)))]) Tryd.underlying41 ti3 rfl ⟨_, _, rfl, rfl, rfl⟩ ⟨rfl, trivial⟩ rfl (by decide)) ?_
  rintro v4 _ _ ⟨i5, rfl, rfl, h6⟩
  obtain ⟨c7, he⟩ := rq he
  refine w_a rfl (o_append' (kd := (Kd.int .i64)) (F := fun z_ => i5 :: z_ :: some (b_t2, .cells ⟨[.bool false, .slice none 0 0]⟩ 43 (0, 0)) :: L) Tryd.underlying41 Tryd.underlying41 ti3 rfl (by first | omega | (simp only [List.nil_append, List.length_cons, List.length_nil]; omega)) rfl rfl h_d (h6.src .here) (fun _ => (.there .here))) ?_
  rintro v8 _ _ ⟨i9, rfl, rfl, h10⟩
  refine w_d rfl (d_assign (v := v8) rfl) ?_
  refine w_done ?_
  refine w_region rfl ?_
  refine w_d rfl (d_move (v := .int .u64 v_) rfl) ?_
  refine w_d rfl (d_quo (c := (Int.tdiv v_ 10) % 18446744073709551616) rfl rfl (by decide) rfl) ?_
  refine w_d rfl (d_assign (v := .int .u64 ((Int.tdiv v_ 10) % 18446744073709551616)) rfl) ?_
  refine w_done ?_
  refine w_inBlock ?_
  refine w_inLoop ?_
  refine w_del .here ?_
  refine w_sl 0 (.int .i64 n) rfl ?_
  refine w_sl 2 (.pointer (some ⟨b_t2, 0, none⟩)) rfl ?_
  refine w_sl 3 (.int .u64 ((Int.tdiv v_ 10) % 18446744073709551616)) rfl ?_
  refine w_sl 4 (v8) rfl ?_
  exact hh.l0 hle he h10
 ·
  refine w_else rfl (decide_eq_false c3) ?_
  refine w_exit rfl ?_
  refine w_seq ?_
  refine w_region rfl ?_
  refine w_d rfl (d_move (v := .int .i64 n) rfl) ?_
  refine w_d rfl (d_lss rfl rfl) ?_
  refine w_d rfl (d_move (v := v_d) rfl) ?_
  refine w_freeze h_d .here ?_
  intro H11 e12 h13
  refine w_d rfl (d_build (cs' := [.bool (decide (n < 0)), v_d]) Tryd.underlying43 zr43 rfl (by kernel_rfl) (parts := [(0, .bool (decide (n < 0))), (1, v_d)]) rfl (.cons (place_of rfl sz4 rfl) rfl rfl (.here .done) (.cons (place_of rfl sz41 rfl) h13.cells rfl (.there (.here .done)) .nil))) ?_
  refine w_a0 rfl (o_store (v := .agg ⟨[.bool (decide (n < 0)), v_d]⟩) sz43 rfl rfl rfl rfl (one_cons rfl (one_cons (h13.one) one_nil)) (.there .here) (.here (.here .done))) ?_
  rintro _ _ _ ⟨rfl, rfl, rfl⟩
  refine w_done ?_
  obtain rfl := Option.some.inj he
  refine w_return fn_22 rs_22 (.box (v := .agg ⟨[.bool (decide (n < 0)), v_d]⟩) rfl ty43 rfl rfl (.there .here) rfl .nil) ?_
  exact ⟨⟨[_, _], rfl⟩, hle.trans e12, ⟨v_d, rfl, h13⟩⟩
theorem radomeref01_Of.ok : ∀ k, radomeref01_Of.OK (radomeref01_Of.hs k)
 | 0 => ⟨(by intros; exact nomatch (show none = some _ from by assumption))⟩
 | k + 1 => ⟨radomeref01_Of.b0_ok (k := k) (radomeref01_Of.ok k)⟩
set_option maxRecDepth 100000 in
set_option maxHeartbeats 2000000 in
theorem radomeref01_Of.calls (k : Nat) {H : Hp} {L : Items} {n : Int} {r : radomeref01_Num} (he : radomeref01_Of.f k n = some r) : Ct Tryd.prog 22 ⟨[.int .i64 n]⟩ H L (fun v H' L' => L = L' ∧ H.le H' ∧ radomeref01_Of.out r H' v) := by
 refine ct_out (O := radomeref01_Of.out r) ?_
 have hle : H.le H := .refl _
 have hh := radomeref01_Of.ok k
 unfold radomeref01_Of.f at he
 refine ct_enter (args := [.int .i64 n]) fn_22 rfl nt_22 rfl ?_
 refine w_seq ?_
 refine w_region rfl ?_
 refine w_a rfl (o_alloc zr43 rfl) ?_
 rintro _ _ _ ⟨b1, rfl, rfl, rfl⟩
 refine w_done ?_
 refine w_seq ?_
 refine w_region rfl ?_
 refine w_d rfl (d_move (v := .int .i64 n) rfl) ?_
 refine w_d rfl (d_conv (c := (n) % 18446744073709551616) Tryd.underlying2 Tryd.underlying74 rfl rfl) ?_
 refine w_d rfl (d_assign (v := .int .u64 ((n) % 18446744073709551616)) rfl) ?_
 refine w_done ?_
 refine w_seq ?_
 refine w_seq ?_
 refine w_region rfl ?_
 refine w_d rfl (d_move (v := .int .i64 n) rfl) ?_
 refine w_d rfl (d_lss rfl rfl) ?_
 refine w_done ?_
 rcases its he with ⟨c2, he⟩ | ⟨c2, he⟩
 ·
  refine w_then rfl (decide_eq_true c2) ?_
  refine w_region rfl ?_
  refine w_d rfl (d_move (v := .int .u64 ((n) % 18446744073709551616)) rfl) ?_
  refine w_d rfl (d_sub (c := (0 - ((n) % 18446744073709551616)) % 18446744073709551616) rfl rfl rfl) ?_
  refine w_d rfl (d_assign (v := .int .u64 ((0 - ((n) % 18446744073709551616)) % 18446744073709551616)) rfl) ?_
  refine w_done ?_
  refine w_sl 0 (.int .i64 n) rfl ?_
  refine w_sl 2 (.pointer (some ⟨b1, 0, none⟩)) rfl ?_
  refine w_sl 3 (.int .u64 ((0 - ((n) % 18446744073709551616)) % 18446744073709551616)) rfl ?_
  exact radomeref01_Of.j1_ok (k := k) hh hle he
 ·
  refine w_else rfl (decide_eq_false c2) ?_
  refine w_skip ?_
  refine w_sl 0 (.int .i64 n) rfl ?_
  refine w_sl 2 (.pointer (some ⟨b1, 0, none⟩)) rfl ?_
  refine w_sl 3 (.int .u64 ((n) % 18446744073709551616)) rfl ?_
  exact radomeref01_Of.j1_ok (k := k) hh hle he
/-! ### radome/radomeref01.trim -/
noncomputable def radomeref01_trim.C : Code := (Tryd.f58.body).getD .skip
abbrev radomeref01_trim.out (r : (List Int)) (H : Hp) (v : Value) : Prop := Ro (Kd.int .i64) H v r
abbrev radomeref01_trim.R (H0 : Hp) (L : Items) (r : (List Int)) : Value → Hp → Items → Prop := fun v H' L' => (∃ p, L' = p ++ L) ∧ H0.le H' ∧ radomeref01_trim.out r H' v
structure radomeref01_trim.Hs where
 l0 : (List Int) → Option (List Int)
noncomputable def radomeref01_trim.b0 (k : Nat) (h : radomeref01_trim.Hs)  (d : List Int) : Option (List Int) := if (decide (0 < (d.length : Int))) = true → 0 ≤ w64 ((d.length : Int) - 1) ∧ w64 ((d.length : Int) - 1) < (d.length : Int) then (if ((decide (0 < (d.length : Int))) && (decide ((rd d (w64 ((d.length : Int) - 1))) = 0))) = true then (if (0 : Int) ≤ 0 ∧ (0 : Int) ≤ w64 ((d.length : Int) - 1) ∧ w64 ((d.length : Int) - 1) ≤ (d.length : Int) then (h.l0 (cut d 0 (w64 ((d.length : Int) - 1)))) else none) else (some (d))) else none
noncomputable def radomeref01_trim.hs : Nat → radomeref01_trim.Hs
 | 0 => ⟨fun _ => none⟩
 | k + 1 => ⟨fun x0 => radomeref01_trim.b0 k (radomeref01_trim.hs k) x0⟩
noncomputable def radomeref01_trim.f (k : Nat) (d : List Int) : Option (List Int) := (fun h : radomeref01_trim.Hs => h.l0 d) (radomeref01_trim.hs k)
structure radomeref01_trim.LE (h h' : radomeref01_trim.Hs) : Prop where
 l0 : ∀ y0, LeO (h.l0 y0) (h'.l0 y0)
theorem radomeref01_trim.b0_mono {k : Nat} {h h' : radomeref01_trim.Hs} (hl : radomeref01_trim.LE h h') : ∀ y0, LeO (radomeref01_trim.b0 k h y0) (radomeref01_trim.b0 (k + 1) h' y0) := fun _ => (LeO.ite (LeO.ite (LeO.ite (hl.l0 _) (LeO.refl _)) (LeO.refl _)) (LeO.refl _))
theorem radomeref01_trim.hs_mono : ∀ k, radomeref01_trim.LE (radomeref01_trim.hs k) (radomeref01_trim.hs (k + 1))
 | 0 => ⟨fun _ => LeO.none _⟩
 | k + 1 => ⟨radomeref01_trim.b0_mono (k := k) (radomeref01_trim.hs_mono k)⟩
theorem radomeref01_trim.mono : ∀ k y0, LeO (radomeref01_trim.f k y0) (radomeref01_trim.f (k + 1) y0) := fun k _ => have hl := radomeref01_trim.hs_mono k; by unfold radomeref01_trim.f; exact (hl.l0 _)
noncomputable def radomeref01_trim.Kl0 : List Item := .code (lopB (blkB (seqL (seqR radomeref01_trim.C)))) :: .inLoop (lopB (blkB (seqL (seqR radomeref01_trim.C)))) :: .inBlock 0 :: .code (seqR (seqR radomeref01_trim.C)) :: []
structure radomeref01_trim.OK (h : radomeref01_trim.Hs) : Prop where
 l0 : ∀ {H0 H : Hp} {L : Items} {r : (List Int)} {jk_ : Nat → Value} {d : List Int} {v_d : Value} (_ : H0.le H) (_he : h.l0 d = some r) (_h_d : Ro (Kd.int .i64) H v_d d), Wp Tryd.prog 58 21 radomeref01_trim.Kl0 (upd (upd jk_ 0 (v_d)) 2 (.slice none 0 0)) H (L) (radomeref01_trim.R H0 L r)
set_option maxRecDepth 100000 in
set_option maxHeartbeats 2000000 in
theorem radomeref01_trim.b0_ok {k : Nat} {h : radomeref01_trim.Hs} (hh : radomeref01_trim.OK h) {H0 H : Hp} {L : Items} {r : (List Int)} {jk_ : Nat → Value} {d : List Int} {v_d : Value} (hle : H0.le H) (he : radomeref01_trim.b0 k h d = some r) (h_d : Ro (Kd.int .i64) H v_d d) : Wp Tryd.prog 58 21 radomeref01_trim.Kl0 (upd (upd jk_ 0 (v_d)) 2 (.slice none 0 0)) H (L) (radomeref01_trim.R H0 L r) := by
 unfold radomeref01_trim.b0 at he
 unfold radomeref01_trim.Kl0
 refine w_seq ?_
 refine w_seq ?_
 refine w_region rfl ?_
 refine w_d rfl (d_move (v := v_d) rfl) ?_
 refine w_d rfl (d_len Tryd.underlying41 rfl h_d.src) ?_
 refine w_d rfl (d_gtr rfl rfl) ?_
 refine w_d rfl (d_move (v := .bool (decide (0 < (d.length : Int)))) rfl) ?_
 refine w_g (g := decide (0 < (d.length : Int))) rfl rfl rfl wn_t (fun g1 => d_move (v := v_d) rfl) ?_
 refine w_g (g := decide (0 < (d.length : Int))) rfl rfl rfl wn_t (fun g2 => d_move (v := v_d) rfl) ?_
 refine w_g (g := decide (0 < (d.length : Int))) rfl rfl rfl wn_t (fun g3 => d_len Tryd.underlying41 (cvt g3) h_d.src) ?_
 refine w_g (g := decide (0 < (d.length : Int))) rfl rfl rfl wn_t (fun g4 => d_sub (c := w64 ((d.length : Int) - 1)) (cvt g4) rfl rfl) ?_
 obtain ⟨c6, he⟩ := rq he
 refine w_g (g := decide (0 < (d.length : Int))) rfl rfl rfl wn_t (fun g5 => d_index (sz := 1) Tryd.underlying41 sz3 (cvt g5) h_d.src (cvt g5) (c6 g5)) ?_
 refine w_g (g := decide (0 < (d.length : Int))) rfl rfl rfl wn_t (fun g7 => d_ldint ty3 (cvt g7) h_d.src (c6 g7)) ?_
 refine w_g (g := decide (0 < (d.length : Int))) rfl rfl rfl wn_t (fun g8 => d_eql (cvt g8) rfl) ?_
 refine w_d rfl (d_and' (b := (decide (0 < (d.length : Int)))) (p := (decide ((rd d (w64 ((d.length : Int) - 1))) = 0))) rfl rfl rfl) ?_
 refine w_done ?_
 rcases its he with ⟨c9, he⟩ | ⟨c9, he⟩
 ·
  refine w_then rfl c9 ?_
  refine w_skip ?_
  refine w_block ?_
  refine w_region rfl ?_
  refine w_d rfl (d_move (v := v_d) rfl) ?_
  refine w_d rfl (d_move (v := v_d) rfl) ?_
  refine w_d rfl (d_len Tryd.underlying41 rfl h_d.src) ?_
  refine w_d rfl (d_sub (c := w64 ((d.length : Int) - 1)) rfl rfl rfl) ?_
  obtain ⟨c10, he⟩ := rq he
  refine w_a rfl (o_cut (kd := (Kd.int .i64)) Tryd.underlying41 sz3 rfl h_d (.inl ⟨rfl, rfl⟩) (.inr ⟨_, _, rfl, rfl⟩) c10) ?_
  rintro v11 _ _ ⟨h12, rfl, rfl⟩
  refine w_d rfl (d_assign (v := v11) rfl) ?_
  refine w_done ?_
  refine w_inBlock ?_
  refine w_inLoop ?_
  refine w_sl 0 (v11) rfl ?_
  refine w_sl 2 (.slice none 0 0) rfl ?_
  exact hh.l0 hle he h12
 ·
  refine w_else rfl (Bool.eq_false_iff.2 c9) ?_
  refine w_exit rfl ?_
  refine w_seq ?_
  refine w_region rfl ?_
  refine w_d rfl (d_move (v := v_d) rfl) ?_
  refine w_d rfl (d_assign (v := v_d) rfl) ?_
  refine w_done ?_
  obtain rfl := Option.some.inj he
  refine w_return fn_58 rs_58 (.tmp (v := v_d) rfl .nil) ?_
  exact ⟨⟨[], rfl⟩, hle, h_d⟩
theorem radomeref01_trim.ok : ∀ k, radomeref01_trim.OK (radomeref01_trim.hs k)
 | 0 => ⟨(by intros; exact nomatch (show none = some _ from by assumption))⟩
 | k + 1 => ⟨radomeref01_trim.b0_ok (k := k) (radomeref01_trim.ok k)⟩
set_option maxRecDepth 100000 in
set_option maxHeartbeats 2000000 in
theorem radomeref01_trim.calls (k : Nat) {H : Hp} {L : Items} {d : List Int} {v0_d : Value} {r : (List Int)} (he : radomeref01_trim.f k d = some r) (h0_d : Ro (Kd.int .i64) H v0_d d) : Ct Tryd.prog 58 ⟨[v0_d]⟩ H L (fun v H' L' => L = L' ∧ H.le H' ∧ radomeref01_trim.out r H' v) := by
 refine ct_out (O := radomeref01_trim.out r) ?_
 have hle : H.le H := .refl _
 have hh := radomeref01_trim.ok k
 unfold radomeref01_trim.f at he
 refine ct_enter (args := [v0_d]) fn_58 rfl nt_58 rfl ?_
 refine w_seq ?_
 refine w_region rfl ?_
 refine w_d rfl (d_assign (v := .slice none 0 0) rfl) ?_
 refine w_done ?_
 refine w_seq ?_
 refine w_block ?_
 refine w_loop ?_
 refine w_sl 0 (v0_d) rfl ?_
 refine w_sl 2 (.slice none 0 0) rfl ?_
 exact hh.l0 hle he h0_d
/-! ### radome/radomeref01.num -/
noncomputable def radomeref01_num.C : Code := (Tryd.f57.body).getD .skip
def radomeref01_num.out (r : radomeref01_Num) (H : Hp) (v : Value) : Prop := ∃ v0, v = .agg ⟨[.bool r.f_Neg, v0]⟩ ∧ Ro (Kd.int .i64) H v0 r.f_D
theorem radomeref01_num.out_mono (r : radomeref01_Num) {H H' : Hp} {v : Value} (hle : H.le H') (h : radomeref01_num.out r H v) : radomeref01_num.out r H' v := by
 obtain ⟨v0, rfl, h0⟩ := h; exact ⟨v0, rfl, h0.mono hle⟩
abbrev radomeref01_num.R (H0 : Hp) (L : Items) (r : radomeref01_Num) : Value → Hp → Items → Prop := fun v H' L' => (∃ p, L' = p ++ L) ∧ H0.le H' ∧ radomeref01_num.out r H' v
noncomputable def radomeref01_num.f (k : Nat) (neg : Bool) (d : List Int) : Option radomeref01_Num := some ((⟨neg && (decide (0 < (d.length : Int))), d⟩ : radomeref01_Num))
theorem radomeref01_num.mono : ∀ k y0 y1, LeO (radomeref01_num.f k y0 y1) (radomeref01_num.f (k + 1) y0 y1) := fun k _ _ => by unfold radomeref01_num.f; exact (LeO.refl _)
set_option maxRecDepth 100000 in
set_option maxHeartbeats 2000000 in
theorem radomeref01_num.calls (k : Nat) {H : Hp} {L : Items} {neg : Bool} {d : List Int} {v0_d : Value} {r : radomeref01_Num} (he : radomeref01_num.f k neg d = some r) (h0_d : Ro (Kd.int .i64) H v0_d d) : Ct Tryd.prog 57 ⟨[.bool neg, v0_d]⟩ H L (fun v H' L' => L = L' ∧ H.le H' ∧ radomeref01_num.out r H' v) := by
 refine ct_out (O := radomeref01_num.out r) ?_
 have hle : H.le H := .refl _
 unfold radomeref01_num.f at he
 refine ct_enter (args := [.bool neg, v0_d]) fn_57 rfl nt_57 rfl ?_
 refine w_seq ?_
 refine w_region rfl ?_
 refine w_a rfl (o_alloc zr43 rfl) ?_
 rintro _ _ _ ⟨b1, rfl, rfl, rfl⟩
 refine w_done ?_
 refine w_seq ?_
 refine w_region rfl ?_
 refine w_d rfl (d_move (v := .bool neg) rfl) ?_
 refine w_d rfl (d_move (v := .bool neg) rfl) ?_
 refine w_g (g := neg) rfl rfl rfl wn_t (fun g2 => d_move (v := v0_d) rfl) ?_
 refine w_g (g := neg) rfl rfl rfl wn_t (fun g3 => d_len Tryd.underlying41 (cvt g3) h0_d.src) ?_
 refine w_g (g := neg) rfl rfl rfl wn_t (fun g4 => d_gtr (cvt g4) rfl) ?_
 refine w_d rfl (d_and' (b := neg) (p := (decide (0 < (d.length : Int)))) rfl rfl rfl) ?_
 refine w_d rfl (d_move (v := v0_d) rfl) ?_
 refine w_d rfl (d_build (cs' := [.bool (neg && (decide (0 < (d.length : Int)))), v0_d]) Tryd.underlying43 zr43 rfl (by kernel_rfl) (parts := [(0, .bool (neg && (decide (0 < (d.length : Int))))), (1, v0_d)]) rfl (.cons (place_of rfl sz4 rfl) rfl rfl (.here .done) (.cons (place_of rfl sz41 rfl) h0_d.cells rfl (.there (.here .done)) .nil))) ?_
 refine w_a0 rfl (o_store (v := .agg ⟨[.bool (neg && (decide (0 < (d.length : Int)))), v0_d]⟩) sz43 rfl rfl rfl rfl (one_cons rfl (one_cons (h0_d.one) one_nil)) .here (.here (.here .done))) ?_
 rintro _ _ _ ⟨rfl, rfl, rfl⟩
 refine w_done ?_
 obtain rfl := Option.some.inj he
 refine w_return fn_57 rs_57 (.box (v := .agg ⟨[.bool (neg && (decide (0 < (d.length : Int)))), v0_d]⟩) rfl ty43 rfl rfl .here rfl .nil) ?_
 exact ⟨⟨[_], rfl⟩, hle, ⟨v0_d, rfl, h0_d⟩⟩
/-! ### radome/radomeref01.Mul -/
noncomputable def radomeref01_Mul.C : Code := (Tryd.f44.body).getD .skip
def radomeref01_Mul.out (r : radomeref01_Num) (H : Hp) (v : Value) : Prop := ∃ v0, v = .agg ⟨[.bool r.f_Neg, v0]⟩ ∧ Ro (Kd.int .i64) H v0 r.f_D
theorem radomeref01_Mul.out_mono (r : radomeref01_Num) {H H' : Hp} {v : Value} (hle : H.le H') (h : radomeref01_Mul.out r H v) : radomeref01_Mul.out r H' v := by
 obtain ⟨v0, rfl, h0⟩ := h; exact ⟨v0, rfl, h0.mono hle⟩
abbrev radomeref01_Mul.R (H0 : Hp) (L : Items) (r : radomeref01_Num) : Value → Hp → Items → Prop := fun v H' L' => (∃ p, L' = p ++ L) ∧ H0.le H' ∧ radomeref01_Mul.out r H' v
structure radomeref01_Mul.Hs where
 l0 : Bool → (List Int) → Bool → (List Int) → (List Int) → Int → Option radomeref01_Num
 l1 : Bool → (List Int) → Bool → (List Int) → (List Int) → Int → Int → Int → Option radomeref01_Num
noncomputable def radomeref01_Mul.b0 (k : Nat) (h : radomeref01_Mul.Hs)  (a_0 : Bool) (a_1 : List Int) (b_0 : Bool) (b_1 : List Int) (out : List Int) (i : Int) : Option radomeref01_Num := if i < (a_1.length : Int) then (h.l1 a_0 a_1 b_0 b_1 out i 0 0) else ((radomeref01_trim.f k out).bind fun y12 => (radomeref01_num.f k (!(a_0 == b_0)) y12).bind fun y20 => some ((⟨y20.f_Neg, y20.f_D⟩ : radomeref01_Num)))
noncomputable def radomeref01_Mul.j3 (k : Nat) (h : radomeref01_Mul.Hs)  (a_0 : Bool) (a_1 : List Int) (b_0 : Bool) (b_1 : List Int) (out : List Int) (i : Int) (c_ : Int) (j_ : Int) (v_ : Int) : Option radomeref01_Num := if 0 ≤ w64 (i + j_) ∧ w64 (i + j_) < (out.length : Int) then (h.l1 a_0 a_1 b_0 b_1 (out.set (w64 (i + j_)).toNat (Int.tmod v_ 10)) i (w64 (Int.tdiv v_ 10)) (w64 (j_ + 1))) else none
noncomputable def radomeref01_Mul.b1 (k : Nat) (h : radomeref01_Mul.Hs)  (a_0 : Bool) (a_1 : List Int) (b_0 : Bool) (b_1 : List Int) (out : List Int) (i : Int) (c_ : Int) (j_ : Int) : Option radomeref01_Num := if j_ ≤ (b_1.length : Int) then (if 0 ≤ w64 (i + j_) ∧ w64 (i + j_) < (out.length : Int) then (if j_ < (b_1.length : Int) then (if 0 ≤ i ∧ i < (a_1.length : Int) then (if 0 ≤ j_ ∧ j_ < (b_1.length : Int) then (radomeref01_Mul.j3 k h a_0 a_1 b_0 b_1 out i c_ j_ (w64 ((w64 ((rd out (w64 (i + j_))) + c_)) + (w64 ((rd a_1 i) * (rd b_1 j_)))))) else none) else none) else (radomeref01_Mul.j3 k h a_0 a_1 b_0 b_1 out i c_ j_ (w64 ((rd out (w64 (i + j_))) + c_)))) else none) else (h.l0 a_0 a_1 b_0 b_1 out (w64 (i + 1)))
noncomputable def radomeref01_Mul.hs : Nat → radomeref01_Mul.Hs
 | 0 => ⟨fun _ _ _ _ _ _ => none, fun _ _ _ _ _ _ _ _ => none⟩
 | k + 1 => ⟨fun x0 x1 x2 x3 x4 x5 => radomeref01_Mul.b0 k (radomeref01_Mul.hs k) x0 x1 x2 x3 x4 x5, fun x0 x1 x2 x3 x4 x5 x6 x7 => radomeref01_Mul.b1 k (radomeref01_Mul.hs k) x0 x1 x2 x3 x4 x5 x6 x7⟩
noncomputable def radomeref01_Mul.f (k : Nat) (a : radomeref01_Num) (b : radomeref01_Num) : Option radomeref01_Num := (fun h : radomeref01_Mul.Hs => if 0 ≤ w64 ((w64 ((a.f_D.length : Int) + (b.f_D.length : Int))) + 1) ∧ w64 ((w64 ((a.f_D.length : Int) + (b.f_D.length : Int))) + 1) ≤ 35184372088832 then (h.l0 a.f_Neg a.f_D b.f_Neg b.f_D (List.replicate (w64 ((w64 ((a.f_D.length : Int) + (b.f_D.length : Int))) + 1)).toNat 0) 0) else none) (radomeref01_Mul.hs k)
structure radomeref01_Mul.LE (h h' : radomeref01_Mul.Hs) : Prop where
 l0 : ∀ y0 y1 y2 y3 y4 y5, LeO (h.l0 y0 y1 y2 y3 y4 y5) (h'.l0 y0 y1 y2 y3 y4 y5)
 l1 : ∀ y0 y1 y2 y3 y4 y5 y6 y7, LeO (h.l1 y0 y1 y2 y3 y4 y5 y6 y7) (h'.l1 y0 y1 y2 y3 y4 y5 y6 y7)
theorem radomeref01_Mul.b0_mono {k : Nat} {h h' : radomeref01_Mul.Hs} (hl : radomeref01_Mul.LE h h') : ∀ y0 y1 y2 y3 y4 y5, LeO (radomeref01_Mul.b0 k h y0 y1 y2 y3 y4 y5) (radomeref01_Mul.b0 (k + 1) h' y0 y1 y2 y3 y4 y5) := fun _ _ _ _ _ _ => (LeO.ite (hl.l1 _ _ _ _ _ _ _ _) (LeO.bind (radomeref01_trim.mono k _) fun _ => LeO.bind (radomeref01_num.mono k _ _) fun _ => LeO.refl _))
theorem radomeref01_Mul.j3_mono {k : Nat} {h h' : radomeref01_Mul.Hs} (hl : radomeref01_Mul.LE h h') : ∀ y0 y1 y2 y3 y4 y5 y6 y7 y8, LeO (radomeref01_Mul.j3 k h y0 y1 y2 y3 y4 y5 y6 y7 y8) (radomeref01_Mul.j3 (k + 1) h' y0 y1 y2 y3 y4 y5 y6 y7 y8) := fun _ _ _ _ _ _ _ _ _ => (LeO.ite (hl.l1 _ _ _ _ _ _ _ _) (LeO.refl _))
theorem radomeref01_Mul.b1_mono {k : Nat} {h h' : radomeref01_Mul.Hs} (hl : radomeref01_Mul.LE h h') : ∀ y0 y1 y2 y3 y4 y5 y6 y7, LeO (radomeref01_Mul.b1 k h y0 y1 y2 y3 y4 y5 y6 y7) (radomeref01_Mul.b1 (k + 1) h' y0 y1 y2 y3 y4 y5 y6 y7) := fun _ _ _ _ _ _ _ _ => (LeO.ite (LeO.ite (LeO.ite (LeO.ite (LeO.ite (radomeref01_Mul.j3_mono (k := k) hl _ _ _ _ _ _ _ _ _) (LeO.refl _)) (LeO.refl _)) (radomeref01_Mul.j3_mono (k := k) hl _ _ _ _ _ _ _ _ _)) (LeO.refl _)) (hl.l0 _ _ _ _ _ _))
theorem radomeref01_Mul.hs_mono : ∀ k, radomeref01_Mul.LE (radomeref01_Mul.hs k) (radomeref01_Mul.hs (k + 1))
 | 0 => ⟨fun _ _ _ _ _ _ => LeO.none _, fun _ _ _ _ _ _ _ _ => LeO.none _⟩
 | k + 1 => ⟨radomeref01_Mul.b0_mono (k := k) (radomeref01_Mul.hs_mono k), radomeref01_Mul.b1_mono (k := k) (radomeref01_Mul.hs_mono k)⟩
theorem radomeref01_Mul.mono : ∀ k y0 y1, LeO (radomeref01_Mul.f k y0 y1) (radomeref01_Mul.f (k + 1) y0 y1) := fun k _ _ => have hl := radomeref01_Mul.hs_mono k; by unfold radomeref01_Mul.f; exact (LeO.ite (hl.l0 _ _ _ _ _ _) (LeO.refl _))
noncomputable def radomeref01_Mul.Kl0 : List Item := .code (lopB (blkB (seqR (seqL (seqR (seqR radomeref01_Mul.C)))))) :: .inLoop (lopB (blkB (seqR (seqL (seqR (seqR radomeref01_Mul.C)))))) :: .inBlock 0 :: .code (seqR (seqR (seqR radomeref01_Mul.C))) :: []
noncomputable def radomeref01_Mul.Kl1 : List Item := .code (lopB (blkB (seqR (seqR (blkB (seqL (seqR (lopB (blkB (seqR (seqL (seqR (seqR radomeref01_Mul.C))))))))))))) :: .inLoop (lopB (blkB (seqR (seqR (blkB (seqL (seqR (lopB (blkB (seqR (seqL (seqR (seqR radomeref01_Mul.C))))))))))))) :: .inBlock 2 :: .inBlock 1 :: .code (seqR (seqR (lopB (blkB (seqR (seqL (seqR (seqR radomeref01_Mul.C)))))))) :: .inLoop (lopB (blkB (seqR (seqL (seqR (seqR radomeref01_Mul.C)))))) :: .inBlock 0 :: .code (seqR (seqR (seqR radomeref01_Mul.C))) :: []
noncomputable def radomeref01_Mul.Kj3 : List Item := .code (seqR (seqR (blkB (seqL (seqR (lopB (blkB (seqR (seqR (blkB (seqL (seqR (lopB (blkB (seqR (seqL (seqR (seqR radomeref01_Mul.C)))))))))))))))))) :: .inBlock 3 :: .code (seqR (seqR (lopB (blkB (seqR (seqR (blkB (seqL (seqR (lopB (blkB (seqR (seqL (seqR (seqR radomeref01_Mul.C))))))))))))))) :: .inLoop (lopB (blkB (seqR (seqR (blkB (seqL (seqR (lopB (blkB (seqR (seqL (seqR (seqR radomeref01_Mul.C))))))))))))) :: .inBlock 2 :: .inBlock 1 :: .code (seqR (seqR (lopB (blkB (seqR (seqL (seqR (seqR radomeref01_Mul.C)))))))) :: .inLoop (lopB (blkB (seqR (seqL (seqR (seqR radomeref01_Mul.C)))))) :: .inBlock 0 :: .code (seqR (seqR (seqR radomeref01_Mul.C))) :: []
structure radomeref01_Mul.OK (h : radomeref01_Mul.Hs) : Prop where
 l0 : ∀ {H0 H : Hp} {L : Items} {r : radomeref01_Num} {jk_ : Nat → Value} {a_0 : Bool} {a_1 : List Int} {b_0 : Bool} {b_1 : List Int} {out : List Int} {i : Int} {v_a_1 : Value} {v_b_1 : Value} {v_out : Value} {i_out : Item'} {b_a : Nat} {b_b : Nat} {b_t4 : Nat} (_ : H0.le H) (_he : h.l0 a_0 a_1 b_0 b_1 out i = some r) (_h_a_1 : Ro (Kd.int .i64) H v_a_1 a_1) (_h_b_1 : Ro (Kd.int .i64) H v_b_1 b_1) (_h_out : Sl (Kd.int .i64) H 3 i_out v_out out), Wp Tryd.prog 44 76 radomeref01_Mul.Kl0 (upd (upd (upd (upd (upd jk_ 2 (.pointer (some ⟨b_a, 0, none⟩))) 3 (.pointer (some ⟨b_b, 0, none⟩))) 4 (.pointer (some ⟨b_t4, 0, none⟩))) 5 (v_out)) 6 (.int .i64 i)) H (i_out :: some (b_t4, .cells ⟨[.bool false, .slice none 0 0]⟩ 43 (0, 0)) :: some (b_b, .cells ⟨[.bool b_0, v_b_1]⟩ 43 (0, 0)) :: some (b_a, .cells ⟨[.bool a_0, v_a_1]⟩ 43 (0, 0)) :: L) (radomeref01_Mul.R H0 L r)
 l1 : ∀ {H0 H : Hp} {L : Items} {r : radomeref01_Num} {jk_ : Nat → Value} {a_0 : Bool} {a_1 : List Int} {b_0 : Bool} {b_1 : List Int} {out : List Int} {i : Int} {c_ : Int} {j_ : Int} {v_a_1 : Value} {v_b_1 : Value} {v_out : Value} {i_out : Item'} {b_a : Nat} {b_b : Nat} {b_t4 : Nat} (_ : H0.le H) (_he : h.l1 a_0 a_1 b_0 b_1 out i c_ j_ = some r) (_h_a_1 : Ro (Kd.int .i64) H v_a_1 a_1) (_h_b_1 : Ro (Kd.int .i64) H v_b_1 b_1) (_h_out : Sl (Kd.int .i64) H 3 i_out v_out out), Wp Tryd.prog 44 76 radomeref01_Mul.Kl1 (upd (upd (upd (upd (upd (upd (upd jk_ 2 (.pointer (some ⟨b_a, 0, none⟩))) 3 (.pointer (some ⟨b_b, 0, none⟩))) 4 (.pointer (some ⟨b_t4, 0, none⟩))) 5 (v_out)) 6 (.int .i64 i)) 7 (.int .i64 c_)) 8 (.int .i64 j_)) H (i_out :: some (b_t4, .cells ⟨[.bool false, .slice none 0 0]⟩ 43 (0, 0)) :: some (b_b, .cells ⟨[.bool b_0, v_b_1]⟩ 43 (0, 0)) :: some (b_a, .cells ⟨[.bool a_0, v_a_1]⟩ 43 (0, 0)) :: L) (radomeref01_Mul.R H0 L r)
set_option maxRecDepth 100000 in
set_option maxHeartbeats 2000000 in
theorem radomeref01_Mul.b0_ok {k : Nat} {h : radomeref01_Mul.Hs} (hh : radomeref01_Mul.OK h) {H0 H : Hp} {L : Items} {r : radomeref01_Num} {jk_ : Nat → Value} {a_0 : Bool} {a_1 : List Int} {b_0 : Bool} {b_1 : List Int} {out : List Int} {i : Int} {v_a_1 : Value} {v_b_1 : Value} {v_out : Value} {i_out : Item'} {b_a : Nat} {b_b : Nat} {b_t4 : Nat} (hle : H0.le H) (he : radomeref01_Mul.b0 k h a_0 a_1 b_0 b_1 out i = some r) (h_a_1 : Ro (Kd.int .i64) H v_a_1 a_1) (h_b_1 : Ro (Kd.int .i64) H v_b_1 b_1) (h_out : Sl (Kd.int .i64) H 3 i_out v_out out) : Wp Tryd.prog 44 76 radomeref01_Mul.Kl0 (upd (upd (upd (upd (upd jk_ 2 (.pointer (some ⟨b_a, 0, none⟩))) 3 (.pointer (some ⟨b_b, 0, none⟩))) 4 (.pointer (some ⟨b_t4, 0, none⟩))) 5 (v_out)) 6 (.int .i64 i)) H (i_out :: some (b_t4, .cells ⟨[.bool false, .slice none 0 0]⟩ 43 (0, 0)) :: some (b_b, .cells ⟨[.bool b_0, v_b_1]⟩ 43 (0, 0)) :: some (b_a, .cells ⟨[.bool a_0, v_a_1]⟩ 43 (0, 0)) :: L) (radomeref01_Mul.R H0 L r) := by
 unfold radomeref01_Mul.b0 at he
 unfold radomeref01_Mul.Kl0
 refine w_seq ?_
 refine w_seq ?_
 refine w_region rfl ?_
 refine w_d rfl (d_move (v := .int .i64 i) rfl) ?_
 refine w_d rfl (d_fld (o' := 1) Tryd.underlying43 rfl sz41 rfl rfl rfl) ?_
 refine w_d rfl (d_loado (v := v_a_1) ty41 rfl (.there (.there (.there .here))) rfl rfl rfl rfl) ?_
 refine w_d rfl (d_len Tryd.underlying41 rfl h_a_1.src) ?_
 refine w_d rfl (d_lss rfl rfl) ?_
 refine w_done ?_
 rcases its he with ⟨c8, he⟩ | ⟨c8, he⟩
 ·
  refine w_then rfl (decide_eq_true c8) ?_
  refine w_skip ?_
  refine w_seq ?_
  refine w_block ?_
  refine w_seq ?_
  refine w_region rfl ?_
  refine w_d rfl (d_assign (v := .int .i64 0) rfl) ?_
  refine w_done ?_
  refine w_seq ?_
  refine w_region rfl ?_
  refine w_d rfl (d_assign (v := .int .i64 0) rfl) ?_
  refine w_done ?_
  refine w_block ?_
  refine w_loop ?_
  refine w_sl 2 (.pointer (some ⟨b_a, 0, none⟩)) rfl ?_
  refine w_sl 3 (.pointer (some ⟨b_b, 0, none⟩)) rfl ?_
  refine w_sl 4 (.pointer (some ⟨b_t4, 0, none⟩)) rfl ?_
  refine w_sl 5 (v_out) rfl ?_
  refine w_sl 6 (.int .i64 i) rfl ?_
  refine w_sl 7 (.int .i64 0) rfl ?_
  refine w_sl 8 (.int .i64 0) rfl ?_
  exact hh.l1 hle he h_a_1 h_b_1 h_out
 ·
  refine w_else rfl (decide_eq_false c8) ?_
  refine w_exit rfl ?_
  refine w_seq ?_
  refine w_freeze h_out .here ?_
  intro H9 e10 h11
  obtain ⟨y12, hy13, he⟩ := Option.bind_eq_some_iff.1 he
  refine w_drawn (p := 7) (tl := [7, 8]) [[], [(0, some 68)], [], [(2, some 70)], [(1, some 69), (3, some 71)], [], [(5, some 73)]] [some 68, some 69, some 70, some 71, some 72, some 73, some 74] (fctF [.is (.pointer (some ⟨b_a, 0, none⟩)), .is (.bool a_0), .is (.pointer (some ⟨b_b, 0, none⟩)), .is (.bool b_0), .is (.bool (!(a_0 == b_0))), .is (v_out), .ro (Kd.int .i64) (y12)]) (fun m_ => none :: some (b_t4, .cells ⟨[.bool false, .slice none 0 0]⟩ 43 (0, 0)) :: some (b_b, .cells ⟨[.bool b_0, v_b_1]⟩ 43 (0, 0)) :: some (b_a, .cells ⟨[.bool a_0, v_a_1]⟩ 43 (0, 0)) :: L) (fun _ => none) mixed (by kernel_rfl) (by kernel_rfl) rfl (fct_mono (by kernel_rfl)) ⟨(by intro H' m_ hH hm_ hu_; refine depK_nil ?_; exact s_d (m_ 0) rfl (d_fld (o' := 0) Tryd.underlying43 rfl sz4 rfl rfl rfl) (by exact rfl) rfl), (by intro H' m_ hH hm_ hu_; rintro _ rfl; refine depK_nil ?_; exact s_d (m_ 1) rfl (d_loado (v := .bool a_0) ty4 rfl (.there (.there (.there .here))) rfl rfl rfl rfl) (by exact rfl) rfl), (by intro H' m_ hH hm_ hu_; refine depK_nil ?_; exact s_d (m_ 2) rfl (d_fld (o' := 0) Tryd.underlying43 rfl sz4 rfl rfl rfl) (by exact rfl) rfl), (by intro H' m_ hH hm_ hu_; rintro _ rfl; refine depK_nil ?_; exact s_d (m_ 3) rfl (d_loado (v := .bool b_0) ty4 rfl (.there (.there .here)) rfl rfl rfl rfl) (by exact rfl) rfl), (by intro H' m_ hH hm_ hu_; rintro _ rfl _ rfl; refine depK_nil ?_; exact s_d (m_ 4) rfl (d_neb (a := a_0) (b := b_0) Tryd.underlying4 rfl rfl) (by exact rfl) rfl), (by intro H' m_ hH hm_ hu_; refine depK_nil ?_; exact s_d (m_ 5) rfl (d_move (v := v_out) rfl) (by exact rfl) rfl), (by intro H' m_ hH hm_ hu_; rintro _ rfl; refine depK_nil ?_; exact s_k (m_ 6) rfl (o_call co58 (vs := [v_out]) rfl (radomeref01_trim.calls k hy13 (h11.mono hH))) rfl (by rintro v_ H_ _ ⟨rfl, e_, h_⟩; exact ⟨rfl, e_, h_⟩)), trivial⟩ ?_
  intro H18 e19
  rintro _ _ rfl _ _ rfl _ _ rfl _ _ rfl _ _ rfl _ _ rfl v16 _ (h17 : Ro (Kd.int .i64) H18 v16 y12)
  obtain ⟨y20, hy21, he⟩ := Option.bind_eq_some_iff.1 he
  refine w_a rfl (o_call co57 (vs := [.bool (!(a_0 == b_0)), v16]) rfl (radomeref01_num.calls k hy21 h17)) ?_
  rintro _ H22 _ ⟨rfl, e23, ⟨v24, rfl, h25⟩⟩
  refine w_a0 rfl (o_store (v := .agg ⟨[.bool y20.f_Neg, v24]⟩) sz43 rfl rfl rfl rfl (one_cons rfl (one_cons (h25.one) one_nil)) (.there .here) (.here (.here .done))) ?_
  rintro _ _ _ ⟨rfl, rfl, rfl⟩
  refine w_done ?_
  obtain rfl := Option.some.inj he
  refine w_return fn_44 rs_44 (.box (v := .agg ⟨[.bool y20.f_Neg, v24]⟩) rfl ty43 rfl rfl (.there .here) rfl .nil) ?_
  exact ⟨⟨[_, _, _, _], rfl⟩, hle.trans ((e10.trans e19).trans e23), ⟨v24, rfl, h25⟩⟩
set_option maxRecDepth 100000 in
set_option maxHeartbeats 2000000 in
theorem radomeref01_Mul.j3_ok {k : Nat} {h : radomeref01_Mul.Hs} (hh : radomeref01_Mul.OK h) {H0 H : Hp} {L : Items} {r : radomeref01_Num} {jk_ : Nat → Value} {a_0 : Bool} {a_1 : List Int} {b_0 : Bool} {b_1 : List Int} {out : List Int} {i : Int} {c_ : Int} {j_ : Int} {v_ : Int} {v_a_1 : Value} {v_b_1 : Value} {v_out : Value} {i_out : Item'} {b_a : Nat} {b_b : Nat} {b_t4 : Nat} (hle : H0.le H) (he : radomeref01_Mul.j3 k h a_0 a_1 b_0 b_1 out i c_ j_ v_ = some r) (h_a_1 : Ro (Kd.int .i64) H v_a_1 a_1) (h_b_1 : Ro (Kd.int .i64) H v_b_1 b_1) (h_out : Sl (Kd.int .i64) H 3 i_out v_out out) : Wp Tryd.prog 44 76 radomeref01_Mul.Kj3 (upd (upd (upd (upd (upd (upd (upd (upd jk_ 2 (.pointer (some ⟨b_a, 0, none⟩))) 3 (.pointer (some ⟨b_b, 0, none⟩))) 4 (.pointer (some ⟨b_t4, 0, none⟩))) 5 (v_out)) 6 (.int .i64 i)) 7 (.int .i64 c_)) 8 (.int .i64 j_)) 9 (.int .i64 v_)) H (i_out :: some (b_t4, .cells ⟨[.bool false, .slice none 0 0]⟩ 43 (0, 0)) :: some (b_b, .cells ⟨[.bool b_0, v_b_1]⟩ 43 (0, 0)) :: some (b_a, .cells ⟨[.bool a_0, v_a_1]⟩ 43 (0, 0)) :: L) (radomeref01_Mul.R H0 L r) := by
 unfold radomeref01_Mul.j3 at he
 unfold radomeref01_Mul.Kj3
 refine w_seq ?_
 refine w_region rfl ?_
 refine w_d rfl (d_move (v := v_out) rfl) ?_
 refine w_d rfl (d_move (v := .int .i64 i) rfl) ?_
 refine w_d rfl (d_move (v := .int .i64 j_) rfl) ?_
 refine w_d rfl (d_add (c := w64 (i + j_)) rfl rfl rfl) ?_
 refine w_d rfl (d_move (v := .int .i64 v_) rfl) ?_
 refine w_d rfl (d_rem rfl rfl (by decide)) ?_
 obtain ⟨c33, he⟩ := rq he
 refine w_d rfl (d_index (sz := 1) Tryd.underlying41 sz3 rfl (h_out.src .here) rfl c33) ?_
 refine w_a0 rfl (o_storeEl (kd := (Kd.int .i64)) (v := .int .i64 (Int.tmod v_ 10)) (F := fun z_ => z_ :: some (b_t4, .cells ⟨[.bool false, .slice none 0 0]⟩ 43 (0, 0)) :: some (b_b, .cells ⟨[.bool b_0, v_b_1]⟩ 43 (0, 0)) :: some (b_a, .cells ⟨[.bool a_0, v_a_1]⟩ 43 (0, 0)) :: L) sz3 rfl rfl rfl rfl h_out c33 (fun _ => .here)) ?_
 rintro _ _ _ ⟨i34, rfl, rfl, rfl, h35⟩
 refine w_done ?_
 refine w_region rfl ?_
 refine w_d rfl (d_move (v := .int .i64 v_) rfl) ?_
 refine w_d rfl (d_quo (c := w64 (Int.tdiv v_ 10)) rfl rfl (by decide) rfl) ?_
 refine w_d rfl (d_assign (v := .int .i64 (w64 (Int.tdiv v_ 10))) rfl) ?_
 refine w_done ?_
 refine w_inBlock ?_
 refine w_region rfl ?_
 refine w_d rfl (d_move (v := .int .i64 j_) rfl) ?_
 refine w_d rfl (d_add (c := w64 (j_ + 1)) rfl rfl rfl) ?_
 refine w_d rfl (d_assign (v := .int .i64 (w64 (j_ + 1))) rfl) ?_
 refine w_done ?_
 refine w_inLoop ?_
 refine w_sl 2 (.pointer (some ⟨b_a, 0, none⟩)) rfl ?_
 refine w_sl 3 (.pointer (some ⟨b_b, 0, none⟩)) rfl ?_
 refine w_sl 4 (.pointer (some ⟨b_t4, 0, none⟩)) rfl ?_
 refine w_sl 5 (v_out) rfl ?_
 refine w_sl 6 (.int .i64 i) rfl ?_
 refine w_sl 7 (.int .i64 (w64 (Int.tdiv v_ 10))) rfl ?_
 refine w_sl 8 (.int .i64 (w64 (j_ + 1))) rfl ?_
 exact hh.l1 hle he h_a_1 h_b_1 h35
set_option maxRecDepth 100000 in
set_option maxHeartbeats 2000000 in
theorem radomeref01_Mul.b1_ok {k : Nat} {h : radomeref01_Mul.Hs} (hh : radomeref01_Mul.OK h) {H0 H : Hp} {L : Items} {r : radomeref01_Num} {jk_ : Nat → Value} {a_0 : Bool} {a_1 : List Int} {b_0 : Bool} {b_1 : List Int} {out : List Int} {i : Int} {c_ : Int} {j_ : Int} {v_a_1 : Value} {v_b_1 : Value} {v_out : Value} {i_out : Item'} {b_a : Nat} {b_b : Nat} {b_t4 : Nat} (hle : H0.le H) (he : radomeref01_Mul.b1 k h a_0 a_1 b_0 b_1 out i c_ j_ = some r) (h_a_1 : Ro (Kd.int .i64) H v_a_1 a_1) (h_b_1 : Ro (Kd.int .i64) H v_b_1 b_1) (h_out : Sl (Kd.int .i64) H 3 i_out v_out out) : Wp Tryd.prog 44 76 radomeref01_Mul.Kl1 (upd (upd (upd (upd (upd (upd (upd jk_ 2 (.pointer (some ⟨b_a, 0, none⟩))) 3 (.pointer (some ⟨b_b, 0, none⟩))) 4 (.pointer (some ⟨b_t4, 0, none⟩))) 5 (v_out)) 6 (.int .i64 i)) 7 (.int .i64 c_)) 8 (.int .i64 j_)) H (i_out :: some (b_t4, .cells ⟨[.bool false, .slice none 0 0]⟩ 43 (0, 0)) :: some (b_b, .cells ⟨[.bool b_0, v_b_1]⟩ 43 (0, 0)) :: some (b_a, .cells ⟨[.bool a_0, v_a_1]⟩ 43 (0, 0)) :: L) (radomeref01_Mul.R H0 L r) := by
 unfold radomeref01_Mul.b1 at he
 unfold radomeref01_Mul.Kl1
 refine w_seq ?_
 refine w_seq ?_
 refine w_region rfl ?_
 refine w_d rfl (d_move (v := .int .i64 j_) rfl) ?_
 refine w_d rfl (d_fld (o' := 1) Tryd.underlying43 rfl sz41 rfl rfl rfl) ?_
 refine w_d rfl (d_loado (v := v_b_1) ty41 rfl (.there (.there .here)) rfl rfl rfl rfl) ?_
 refine w_d rfl (d_len Tryd.underlying41 rfl h_b_1.src) ?_
 refine w_d rfl (d_leq rfl rfl) ?_
 refine w_done ?_
 rcases its he with ⟨c26, he⟩ | ⟨c26, he⟩
 ·
  refine w_then rfl (decide_eq_true c26) ?_
  refine w_skip ?_
  refine w_seq ?_
  refine w_block ?_
  refine w_seq ?_
  refine w_region rfl ?_
  refine w_d rfl (d_move (v := v_out) rfl) ?_
  refine w_d rfl (d_move (v := .int .i64 i) rfl) ?_
  refine w_d rfl (d_move (v := .int .i64 j_) rfl) ?_
  refine w_d rfl (d_add (c := w64 (i + j_)) rfl rfl rfl) ?_
  obtain ⟨c27, he⟩ := rq he
  refine w_d rfl (d_index (sz := 1) Tryd.underlying41 sz3 rfl (h_out.src .here) rfl c27) ?_
  refine w_d rfl (d_ldint ty3 rfl (h_out.src .here) c27) ?_
  refine w_d rfl (d_move (v := .int .i64 c_) rfl) ?_
  refine w_d rfl (d_add (c := w64 ((rd out (w64 (i + j_))) + c_)) rfl rfl rfl) ?_
  refine w_d rfl (d_assign (v := .int .i64 (w64 ((rd out (w64 (i + j_))) + c_))) rfl) ?_
  refine w_done ?_
  refine w_seq ?_
  refine w_seq ?_
  refine w_region rfl ?_
  refine w_d rfl (d_move (v := .int .i64 j_) rfl) ?_
  refine w_d rfl (d_fld (o' := 1) Tryd.underlying43 rfl sz41 rfl rfl rfl) ?_
  refine w_d rfl (d_loado (v := v_b_1) ty41 rfl (.there (.there .here)) rfl rfl rfl rfl) ?_
  refine w_d rfl (d_len Tryd.underlying41 rfl h_b_1.src) ?_
  refine w_d rfl (d_lss rfl rfl) ?_
  refine w_done ?_
  rcases its he with ⟨c28, he⟩ | ⟨c28, he⟩
  ·
   refine w_then rfl (decide_eq_true c28) ?_
   obtain ⟨c29, he⟩ := rq he
   obtain ⟨c30, he⟩ := rq he
   refine w_drawn (p := 12) (tl := [12, 13]) [[], [], [(1, some 47)], [], [(2, some 48), (3, some 49)], [(4, some 50)], [], [(6, some 52)], [], [(7, some 53), (8, some 54)], [(9, some 55)], [(5, some 51), (10, some 56)]] [some 46, some 47, some 48, some 49, some 50, some 51, some 52, some 53, some 54, some 55, some 56, some 57] (fctF [.is (.int .i64 (w64 ((rd out (w64 (i + j_))) + c_))), .is (.pointer (some ⟨b_a, 1, none⟩)), .is (v_a_1), .is (.int .i64 i), .is (.pointer (some (pel v_a_1 i 1))), .is (.int .i64 (rd a_1 i)), .is (.pointer (some ⟨b_b, 1, none⟩)), .is (v_b_1), .is (.int .i64 j_), .is (.pointer (some (pel v_b_1 j_ 1))), .is (.int .i64 (rd b_1 j_)), .is (.int .i64 (w64 ((rd a_1 i) * (rd b_1 j_))))]) (fun m_ => i_out :: some (b_t4, .cells ⟨[.bool false, .slice none 0 0]⟩ 43 (0, 0)) :: some (b_b, .cells ⟨[.bool b_0, v_b_1]⟩ 43 (0, 0)) :: some (b_a, .cells ⟨[.bool a_0, v_a_1]⟩ 43 (0, 0)) :: L) (fun _ => none) mixed (by kernel_rfl) (by kernel_rfl) rfl (fct_mono (by kernel_rfl)) ⟨(by intro H' m_ hH hm_ hu_; refine depK_nil ?_; exact s_d (m_ 0) rfl (d_move (v := .int .i64 (w64 ((rd out (w64 (i + j_))) + c_))) rfl) (by exact rfl) rfl), (by intro H' m_ hH hm_ hu_; refine depK_nil ?_; exact s_d (m_ 1) rfl (d_fld (o' := 1) Tryd.underlying43 rfl sz41 rfl rfl rfl) (by exact rfl) rfl), (by intro H' m_ hH hm_ hu_; rintro _ rfl; refine depK_nil ?_; exact s_d (m_ 2) rfl (d_loado (v := v_a_1) ty41 rfl (.there (.there (.there .here))) rfl rfl rfl rfl) (by exact rfl) rfl), (by intro H' m_ hH hm_ hu_; refine depK_nil ?_; exact s_d (m_ 3) rfl (d_move (v := .int .i64 i) rfl) (by exact rfl) rfl), (by intro H' m_ hH hm_ hu_; rintro _ rfl _ rfl; refine depK_nil ?_; exact s_d (m_ 4) rfl (d_index (sz := 1) Tryd.underlying41 sz3 rfl (h_a_1.mono hH).src rfl c29) (by exact rfl) rfl), (by intro H' m_ hH hm_ hu_; rintro _ rfl; refine depK_nil ?_; exact s_d (m_ 5) rfl (d_ldint ty3 rfl (h_a_1.mono hH).src c29) (by exact rfl) rfl), (by intro H' m_ hH hm_ hu_; refine depK_nil ?_; exact s_d (m_ 6) rfl (d_fld (o' := 1) Tryd.underlying43 rfl sz41 rfl rfl rfl) (by exact rfl) rfl), (by intro H' m_ hH hm_ hu_; rintro _ rfl; refine depK_nil ?_; exact s_d (m_ 7) rfl (d_loado (v := v_b_1) ty41 rfl (.there (.there .here)) rfl rfl rfl rfl) (by exact rfl) rfl), (by intro H' m_ hH hm_ hu_; refine depK_nil ?_; exact s_d (m_ 8) rfl (d_move (v := .int .i64 j_) rfl) (by exact rfl) rfl), (by intro H' m_ hH hm_ hu_; rintro _ rfl _ rfl; refine depK_nil ?_; exact s_d (m_ 9) rfl (d_index (sz := 1) Tryd.underlying41 sz3 rfl (h_b_1.mono hH).src rfl c30) (by exact rfl) rfl), (by intro H' m_ hH hm_ hu_; rintro _ rfl; refine depK_nil ?_; exact s_d (m_ 10) rfl (d_ldint ty3 rfl (h_b_1.mono hH).src c30) (by exact rfl) rfl), (by intro H' m_ hH hm_ hu_; rintro _ rfl _ rfl; refine depK_nil ?_; exact s_d (m_ 11) rfl (d_mul (c := w64 ((rd a_1 i) * (rd b_1 j_))) rfl rfl rfl) (by exact rfl) rfl), trivial⟩ ?_
   intro H31 e32
   rintro _ _ rfl _ _ rfl _ _ rfl _ _ rfl _ _ rfl _ _ rfl _ _ rfl _ _ rfl _ _ rfl _ _ rfl _ _ rfl _ _ rfl
   refine w_d rfl (d_add (c := w64 ((w64 ((rd out (w64 (i + j_))) + c_)) + (w64 ((rd a_1 i) * (rd b_1 j_))))) rfl rfl rfl) ?_
   refine w_d rfl (d_assign (v := .int .i64 (w64 ((w64 ((rd out (w64 (i + j_))) + c_)) + (w64 ((rd a_1 i) * (rd b_1 j_)))))) rfl) ?_
   refine w_done ?_
   refine w_sl 2 (.pointer (some ⟨b_a, 0, none⟩)) rfl ?_
   refine w_sl 3 (.pointer (some ⟨b_b, 0, none⟩)) rfl ?_
   refine w_sl 4 (.pointer (some ⟨b_t4, 0, none⟩)) rfl ?_
   refine w_sl 5 (v_out) rfl ?_
   refine w_sl 6 (.int .i64 i) rfl ?_
   refine w_sl 7 (.int .i64 c_) rfl ?_
   refine w_sl 8 (.int .i64 j_) rfl ?_
   refine w_sl 9 (.int .i64 (w64 ((w64 ((rd out (w64 (i + j_))) + c_)) + (w64 ((rd a_1 i) * (rd b_1 j_)))))) rfl ?_
   exact radomeref01_Mul.j3_ok (k := k) hh (hle.trans e32) he (h_a_1.mono e32) (h_b_1.mono e32) (h_out.mono e32)
  ·
   refine w_else rfl (decide_eq_false c28) ?_
   refine w_skip ?_
   refine w_sl 2 (.pointer (some ⟨b_a, 0, none⟩)) rfl ?_
   refine w_sl 3 (.pointer (some ⟨b_b, 0, none⟩)) rfl ?_
   refine w_sl 4 (.pointer (some ⟨b_t4, 0, none⟩)) rfl ?_
   refine w_sl 5 (v_out) rfl ?_
   refine w_sl 6 (.int .i64 i) rfl ?_
   refine w_sl 7 (.int .i64 c_) rfl ?_
   refine w_sl 8 (.int .i64 j_) rfl ?_
   refine w_sl 9 (.int .i64 (w64 ((rd out (w64 (i + j_))) + c_))) rfl ?_
   exact radomeref01_Mul.j3_ok (k := k) hh hle he h_a_1 h_b_1 h_out
 ·
  refine w_else rfl (decide_eq_false c26) ?_
  refine w_exit rfl ?_
  refine w_inBlock ?_
  refine w_region rfl ?_
  refine w_d rfl (d_move (v := .int .i64 i) rfl) ?_
  refine w_d rfl (d_add (c := w64 (i + 1)) rfl rfl rfl) ?_
  refine w_d rfl (d_assign (v := .int .i64 (w64 (i + 1))) rfl) ?_
  refine w_done ?_
  refine w_inLoop ?_
  refine w_sl 2 (.pointer (some ⟨b_a, 0, none⟩)) rfl ?_
  refine w_sl 3 (.pointer (some ⟨b_b, 0, none⟩)) rfl ?_
  refine w_sl 4 (.pointer (some ⟨b_t4, 0, none⟩)) rfl ?_
  refine w_sl 5 (v_out) rfl ?_
  refine w_sl 6 (.int .i64 (w64 (i + 1))) rfl ?_
  exact hh.l0 hle he h_a_1 h_b_1 h_out
theorem radomeref01_Mul.ok : ∀ k, radomeref01_Mul.OK (radomeref01_Mul.hs k)
 | 0 => ⟨(by intros; exact nomatch (show none = some _ from by assumption)), (by intros; exact nomatch (show none = some _ from by assumption))⟩
 | k + 1 => ⟨radomeref01_Mul.b0_ok (k := k) (radomeref01_Mul.ok k), radomeref01_Mul.b1_ok (k := k) (radomeref01_Mul.ok k)⟩
set_option maxRecDepth 100000 in
set_option maxHeartbeats 2000000 in
theorem radomeref01_Mul.calls (k : Nat) {H : Hp} {L : Items} {a : radomeref01_Num} {b : radomeref01_Num} {v0_a : Value} {v1_b : Value} {r : radomeref01_Num} (he : radomeref01_Mul.f k a b = some r) (h0_a : Ro (Kd.int .i64) H v0_a a.f_D) (h1_b : Ro (Kd.int .i64) H v1_b b.f_D) : Ct Tryd.prog 44 ⟨[.agg ⟨[.bool a.f_Neg, v0_a]⟩, .agg ⟨[.bool b.f_Neg, v1_b]⟩]⟩ H L (fun v H' L' => L = L' ∧ H.le H' ∧ radomeref01_Mul.out r H' v) := by
 refine ct_out (O := radomeref01_Mul.out r) ?_
 have hle : H.le H := .refl _
 have hh := radomeref01_Mul.ok k
 unfold radomeref01_Mul.f at he
 refine ct_enter (args := [.agg ⟨[.bool a.f_Neg, v0_a]⟩, .agg ⟨[.bool b.f_Neg, v1_b]⟩]) fn_44 rfl nt_44 rfl ?_
 refine w_seq ?_
 refine w_region rfl ?_
 refine w_a rfl (o_box (v := .agg ⟨[.bool a.f_Neg, v0_a]⟩) rfl rfl) ?_
 rintro _ _ _ ⟨b1, rfl, rfl, rfl⟩
 refine w_a rfl (o_box (v := .agg ⟨[.bool b.f_Neg, v1_b]⟩) rfl rfl) ?_
 rintro _ _ _ ⟨b2, rfl, rfl, rfl⟩
 refine w_a rfl (o_alloc zr43 rfl) ?_
 rintro _ _ _ ⟨b3, rfl, rfl, rfl⟩
 refine w_done ?_
 refine w_seq ?_
 refine w_region rfl ?_
 refine w_d rfl (d_fld (o' := 1) Tryd.underlying43 rfl sz41 rfl rfl rfl) ?_
 refine w_d rfl (d_loado (v := v0_a) ty41 rfl (.there (.there .here)) rfl rfl rfl rfl) ?_
 refine w_d rfl (d_len Tryd.underlying41 rfl h0_a.src) ?_
 refine w_d rfl (d_fld (o' := 1) Tryd.underlying43 rfl sz41 rfl rfl rfl) ?_
 refine w_d rfl (d_loado (v := v1_b) ty41 rfl (.there .here) rfl rfl rfl rfl) ?_
 refine w_d rfl (d_len Tryd.underlying41 rfl h1_b.src) ?_
 refine w_d rfl (d_add (c := w64 ((a.f_D.length : Int) + (b.f_D.length : Int))) rfl rfl rfl) ?_
 refine w_d rfl (d_add (c := w64 ((w64 ((a.f_D.length : Int) + (b.f_D.length : Int))) + 1)) rfl rfl rfl) ?_
 obtain ⟨c4, he⟩ := rq he
 refine w_a rfl (o_make' (kd := (Kd.int .i64)) (z0 := 0) Tryd.underlying41 ti3 (zp3 _) rfl rfl (by omega) (by omega) (by omega)) ?_
 rintro v5 _ _ ⟨i6, rfl, rfl, h7⟩
 refine w_d rfl (d_assign (v := v5) rfl) ?_
 refine w_done ?_
 refine w_seq ?_
 refine w_seq ?_
 refine w_region rfl ?_
 refine w_d rfl (d_assign (v := .int .i64 0) rfl) ?_
 refine w_done ?_
 refine w_block ?_
 refine w_loop ?_
 refine w_sl 2 (.pointer (some ⟨b1, 0, none⟩)) rfl ?_
 refine w_sl 3 (.pointer (some ⟨b2, 0, none⟩)) rfl ?_
 refine w_sl 4 (.pointer (some ⟨b3, 0, none⟩)) rfl ?_
 refine w_sl 5 (v5) rfl ?_
 refine w_sl 6 (.int .i64 0) rfl ?_
 exact hh.l0 hle he h0_a h1_b h7
/-! ### radome/radomeref01.plus -/
noncomputable def radomeref01_plus.C : Code := (Tryd.f67.body).getD .skip
abbrev radomeref01_plus.out (r : (List Int)) (H : Hp) (v : Value) : Prop := Ro (Kd.int .i64) H v r
abbrev radomeref01_plus.R (H0 : Hp) (L : Items) (r : (List Int)) : Value → Hp → Items → Prop := fun v H' L' => (∃ p, L' = p ++ L) ∧ H0.le H' ∧ radomeref01_plus.out r H' v
structure radomeref01_plus.Hs where
 l0 : (List Int) → (List Int) → (List Int) → Int → Int → Option (List Int)
noncomputable def radomeref01_plus.j3 (k : Nat) (h : radomeref01_plus.Hs)  (a : List Int) (b : List Int) (out : List Int) (c_ : Int) (i : Int) : Option (List Int) := if out.length + 1 ≤ 17592186044288 then (h.l0 a b (out ++ [Int.tmod c_ 10]) (w64 (Int.tdiv c_ 10)) (w64 (i + 1))) else none
noncomputable def radomeref01_plus.j2 (k : Nat) (h : radomeref01_plus.Hs)  (a : List Int) (b : List Int) (out : List Int) (c_ : Int) (i : Int) : Option (List Int) := if i < (b.length : Int) then (if 0 ≤ i ∧ i < (b.length : Int) then (radomeref01_plus.j3 k h a b out (w64 (c_ + (rd b i))) i) else none) else (radomeref01_plus.j3 k h a b out c_ i)
noncomputable def radomeref01_plus.b0 (k : Nat) (h : radomeref01_plus.Hs)  (a : List Int) (b : List Int) (out : List Int) (c_ : Int) (i : Int) : Option (List Int) := if ((decide (i < (a.length : Int))) || (decide (i < (b.length : Int)))) = true then (if i < (a.length : Int) then (if 0 ≤ i ∧ i < (a.length : Int) then (radomeref01_plus.j2 k h a b out (w64 (c_ + (rd a i))) i) else none) else (radomeref01_plus.j2 k h a b out c_ i)) else (if out.length + 1 ≤ 17592186044288 then ((radomeref01_trim.f k (out ++ [c_])).bind fun y18 => some (y18)) else none)
noncomputable def radomeref01_plus.hs : Nat → radomeref01_plus.Hs
 | 0 => ⟨fun _ _ _ _ _ => none⟩
 | k + 1 => ⟨fun x0 x1 x2 x3 x4 => radomeref01_plus.b0 k (radomeref01_plus.hs k) x0 x1 x2 x3 x4⟩
noncomputable def radomeref01_plus.f (k : Nat) (a : List Int) (b : List Int) : Option (List Int) := (fun h : radomeref01_plus.Hs => h.l0 a b [] 0 0) (radomeref01_plus.hs k)
structure radomeref01_plus.LE (h h' : radomeref01_plus.Hs) : Prop where
 l0 : ∀ y0 y1 y2 y3 y4, LeO (h.l0 y0 y1 y2 y3 y4) (h'.l0 y0 y1 y2 y3 y4)
theorem radomeref01_plus.j3_mono {k : Nat} {h h' : radomeref01_plus.Hs} (hl : radomeref01_plus.LE h h') : ∀ y0 y1 y2 y3 y4, LeO (radomeref01_plus.j3 k h y0 y1 y2 y3 y4) (radomeref01_plus.j3 (k + 1) h' y0 y1 y2 y3 y4) := fun _ _ _ _ _ => (LeO.ite (hl.l0 _ _ _ _ _) (LeO.refl _))
theorem radomeref01_plus.j2_mono {k : Nat} {h h' : radomeref01_plus.Hs} (hl : radomeref01_plus.LE h h') : ∀ y0 y1 y2 y3 y4, LeO (radomeref01_plus.j2 k h y0 y1 y2 y3 y4) (radomeref01_plus.j2 (k + 1) h' y0 y1 y2 y3 y4) := fun _ _ _ _ _ => (LeO.ite (LeO.ite (radomeref01_plus.j3_mono (k := k) hl _ _ _ _ _) (LeO.refl _)) (radomeref01_plus.j3_mono (k := k) hl _ _ _ _ _))
theorem radomeref01_plus.b0_mono {k : Nat} {h h' : radomeref01_plus.Hs} (hl : radomeref01_plus.LE h h') : ∀ y0 y1 y2 y3 y4, LeO (radomeref01_plus.b0 k h y0 y1 y2 y3 y4) (radomeref01_plus.b0 (k + 1) h' y0 y1 y2 y3 y4) := fun _ _ _ _ _ => (LeO.ite (LeO.ite (LeO.ite (radomeref01_plus.j2_mono (k := k) hl _ _ _ _ _) (LeO.refl _)) (radomeref01_plus.j2_mono (k := k) hl _ _ _ _ _)) (LeO.ite (LeO.bind (radomeref01_trim.mono k _) fun _ => LeO.refl _) (LeO.refl _)))
theorem radomeref01_plus.hs_mono : ∀ k, radomeref01_plus.LE (radomeref01_plus.hs k) (radomeref01_plus.hs (k + 1))
 | 0 => ⟨fun _ _ _ _ _ => LeO.none _⟩
 | k + 1 => ⟨radomeref01_plus.b0_mono (k := k) (radomeref01_plus.hs_mono k)⟩
theorem radomeref01_plus.mono : ∀ k y0 y1, LeO (radomeref01_plus.f k y0 y1) (radomeref01_plus.f (k + 1) y0 y1) := fun k _ _ => have hl := radomeref01_plus.hs_mono k; by unfold radomeref01_plus.f; exact (hl.l0 _ _ _ _ _)
noncomputable def radomeref01_plus.Kl0 : List Item := .code (lopB (blkB (seqR (seqL (seqR (seqR (seqR radomeref01_plus.C))))))) :: .inLoop (lopB (blkB (seqR (seqL (seqR (seqR (seqR radomeref01_plus.C))))))) :: .inBlock 0 :: .code (seqR (seqR (seqR (seqR radomeref01_plus.C)))) :: []
noncomputable def radomeref01_plus.Kj2 : List Item := .code (seqR (blkB (seqL (seqR (lopB (blkB (seqR (seqL (seqR (seqR (seqR radomeref01_plus.C))))))))))) :: .inBlock 1 :: .code (seqR (seqR (lopB (blkB (seqR (seqL (seqR (seqR (seqR radomeref01_plus.C))))))))) :: .inLoop (lopB (blkB (seqR (seqL (seqR (seqR (seqR radomeref01_plus.C))))))) :: .inBlock 0 :: .code (seqR (seqR (seqR (seqR radomeref01_plus.C)))) :: []
noncomputable def radomeref01_plus.Kj3 : List Item := .code (seqR (seqR (blkB (seqL (seqR (lopB (blkB (seqR (seqL (seqR (seqR (seqR radomeref01_plus.C)))))))))))) :: .inBlock 1 :: .code (seqR (seqR (lopB (blkB (seqR (seqL (seqR (seqR (seqR radomeref01_plus.C))))))))) :: .inLoop (lopB (blkB (seqR (seqL (seqR (seqR (seqR radomeref01_plus.C))))))) :: .inBlock 0 :: .code (seqR (seqR (seqR (seqR radomeref01_plus.C)))) :: []
structure radomeref01_plus.OK (h : radomeref01_plus.Hs) : Prop where
 l0 : ∀ {H0 H : Hp} {L : Items} {r : (List Int)} {jk_ : Nat → Value} {a : List Int} {b : List Int} {out : List Int} {c_ : Int} {i : Int} {v_a : Value} {v_b : Value} {v_out : Value} {i_out : Item'} (_ : H0.le H) (_he : h.l0 a b out c_ i = some r) (_h_a : Ro (Kd.int .i64) H v_a a) (_h_b : Ro (Kd.int .i64) H v_b b) (_h_out : Sl (Kd.int .i64) H 3 i_out v_out out), Wp Tryd.prog 67 52 radomeref01_plus.Kl0 (upd (upd (upd (upd (upd (upd jk_ 0 (v_a)) 1 (v_b)) 4 (.slice none 0 0)) 5 (v_out)) 6 (.int .i64 c_)) 7 (.int .i64 i)) H (i_out :: L) (radomeref01_plus.R H0 L r)
set_option maxRecDepth 100000 in
set_option maxHeartbeats 2000000 in
theorem radomeref01_plus.j3_ok {k : Nat} {h : radomeref01_plus.Hs} (hh : radomeref01_plus.OK h) {H0 H : Hp} {L : Items} {r : (List Int)} {jk_ : Nat → Value} {a : List Int} {b : List Int} {out : List Int} {c_ : Int} {i : Int} {v_a : Value} {v_b : Value} {v_out : Value} {i_out : Item'} (hle : H0.le H) (he : radomeref01_plus.j3 k h a b out c_ i = some r) (h_a : Ro (Kd.int .i64) H v_a a) (h_b : Ro (Kd.int .i64) H v_b b) (h_out : Sl (Kd.int .i64) H 3 i_out v_out out) : Wp Tryd.prog 67 52 radomeref01_plus.Kj3 (upd (upd (upd (upd (upd (upd jk_ 0 (v_a)) 1 (v_b)) 4 (.slice none 0 0)) 5 (v_out)) 6 (.int .i64 c_)) 7 (.int .i64 i)) H (i_out :: L) (radomeref01_plus.R H0 L r) := by
 unfold radomeref01_plus.j3 at he
 unfold radomeref01_plus.Kj3
 refine w_seq ?_
 refine w_region rfl ?_
 refine w_d rfl (d_move (v := v_out) rfl) ?_
 refine w_d rfl (d_move (v := .int .i64 c_) rfl) ?_
 refine w_d rfl (d_rem rfl rfl (by decide)) ?_
 refine w_a rfl (o_buildSlice' (kd := (Kd.int .i64)) (css := [[.int .i64 (Int.tmod c_ 10)]]) (xs := [Int.tmod c_ 10]) (parts := [(0, .int .i64 (Int.tmod c_ 10))]) Tryd.underlying41 ti3 rfl ⟨_, _, rfl, rfl, rfl⟩ ⟨rfl, trivial⟩ rfl (by decide)) ?_
 rintro v26 _ _ ⟨i27, rfl, rfl, h28⟩
 obtain ⟨c29, he⟩ := rq he
 refine w_a rfl (o_append' (kd := (Kd.int .i64)) (F := fun z_ => i27 :: z_ :: L) Tryd.underlying41 Tryd.underlying41 ti3 rfl (by first | omega | (simp only [List.nil_append, List.length_cons, List.length_nil]; omega)) rfl rfl h_out (h28.src .here) (fun _ => (.there .here))) ?_
 rintro v30 _ _ ⟨i31, rfl, rfl, h32⟩
 refine w_d rfl (d_assign (v := v30) rfl) ?_
 refine w_done ?_
 refine w_region rfl ?_
 refine w_d rfl (d_move (v := .int .i64 c_) rfl) ?_
 refine w_d rfl (d_quo (c := w64 (Int.tdiv c_ 10)) rfl rfl (by decide) rfl) ?_
 refine w_d rfl (d_assign (v := .int .i64 (w64 (Int.tdiv c_ 10))) rfl) ?_
 refine w_done ?_
 refine w_inBlock ?_
 refine w_region rfl ?_
 refine w_d rfl (d_move (v := .int .i64 i) rfl) ?_
 refine w_d rfl (d_add (c := w64 (i + 1)) rfl rfl rfl) ?_
 refine w_d rfl (d_assign (v := .int .i64 (w64 (i + 1))) rfl) ?_
 refine w_done ?_
 refine w_inLoop ?_
 refine w_del .here ?_
 refine w_sl 0 (v_a) rfl ?_
 refine w_sl 1 (v_b) rfl ?_
 refine w_sl 4 (.slice none 0 0) rfl ?_
 refine w_sl 5 (v30) rfl ?_
 refine w_sl 6 (.int .i64 (w64 (Int.tdiv c_ 10))) rfl ?_
 refine w_sl 7 (.int .i64 (w64 (i + 1))) rfl ?_
 exact hh.l0 hle he h_a h_b h32
set_option maxRecDepth 100000 in
set_option maxHeartbeats 2000000 in
theorem radomeref01_plus.j2_ok {k : Nat} {h : radomeref01_plus.Hs} (hh : radomeref01_plus.OK h) {H0 H : Hp} {L : Items} {r : (List Int)} {jk_ : Nat → Value} {a : List Int} {b : List Int} {out : List Int} {c_ : Int} {i : Int} {v_a : Value} {v_b : Value} {v_out : Value} {i_out : Item'} (hle : H0.le H) (he : radomeref01_plus.j2 k h a b out c_ i = some r) (h_a : Ro (Kd.int .i64) H v_a a) (h_b : Ro (Kd.int .i64) H v_b b) (h_out : Sl (Kd.int .i64) H 3 i_out v_out out) : Wp Tryd.prog 67 52 radomeref01_plus.Kj2 (upd (upd (upd (upd (upd (upd jk_ 0 (v_a)) 1 (v_b)) 4 (.slice none 0 0)) 5 (v_out)) 6 (.int .i64 c_)) 7 (.int .i64 i)) H (i_out :: L) (radomeref01_plus.R H0 L r) := by
 unfold radomeref01_plus.j2 at he
 unfold radomeref01_plus.Kj2
 refine w_seq ?_
 refine w_seq ?_
 refine w_region rfl ?_
 refine w_d rfl (d_move (v := .int .i64 i) rfl) ?_
 refine w_d rfl (d_move (v := v_b) rfl) ?_
 refine w_d rfl (d_len Tryd.underlying41 rfl h_b.src) ?_
 refine w_d rfl (d_lss rfl rfl) ?_
 refine w_done ?_
 rcases its he with ⟨c24, he⟩ | ⟨c24, he⟩
 ·
  refine w_then rfl (decide_eq_true c24) ?_
  refine w_region rfl ?_
  refine w_d rfl (d_move (v := .int .i64 c_) rfl) ?_
  refine w_d rfl (d_move (v := v_b) rfl) ?_
  refine w_d rfl (d_move (v := .int .i64 i) rfl) ?_
  obtain ⟨c25, he⟩ := rq he
  refine w_d rfl (d_index (sz := 1) Tryd.underlying41 sz3 rfl h_b.src rfl c25) ?_
  refine w_d rfl (d_ldint ty3 rfl h_b.src c25) ?_
  refine w_d rfl (d_add (c := w64 (c_ + (rd b i))) rfl rfl rfl) ?_
  refine w_d rfl (d_assign (v := .int .i64 (w64 (c_ + (rd b i)))) rfl) ?_
  refine w_done ?_
  refine w_sl 0 (v_a) rfl ?_
  refine w_sl 1 (v_b) rfl ?_
  refine w_sl 4 (.slice none 0 0) rfl ?_
  refine w_sl 5 (v_out) rfl ?_
  refine w_sl 6 (.int .i64 (w64 (c_ + (rd b i)))) rfl ?_
  refine w_sl 7 (.int .i64 i) rfl ?_
  exact radomeref01_plus.j3_ok (k := k) hh hle he h_a h_b h_out
 ·
  refine w_else rfl (decide_eq_false c24) ?_
  refine w_skip ?_
  refine w_sl 0 (v_a) rfl ?_
  refine w_sl 1 (v_b) rfl ?_
  refine w_sl 4 (.slice none 0 0) rfl ?_
  refine w_sl 5 (v_out) rfl ?_
  refine w_sl 6 (.int .i64 c_) rfl ?_
  refine w_sl 7 (.int .i64 i) rfl ?_
  exact radomeref01_plus.j3_ok (k := k) hh hle he h_a h_b h_out
set_option maxRecDepth 100000 in
set_option maxHeartbeats 2000000 in
theorem radomeref01_plus.b0_ok {k : Nat} {h : radomeref01_plus.Hs} (hh : radomeref01_plus.OK h) {H0 H : Hp} {L : Items} {r : (List Int)} {jk_ : Nat → Value} {a : List Int} {b : List Int} {out : List Int} {c_ : Int} {i : Int} {v_a : Value} {v_b : Value} {v_out : Value} {i_out : Item'} (hle : H0.le H) (he : radomeref01_plus.b0 k h a b out c_ i = some r) (h_a : Ro (Kd.int .i64) H v_a a) (h_b : Ro (Kd.int .i64) H v_b b) (h_out : Sl (Kd.int .i64) H 3 i_out v_out out) : Wp Tryd.prog 67 52 radomeref01_plus.Kl0 (upd (upd (upd (upd (upd (upd jk_ 0 (v_a)) 1 (v_b)) 4 (.slice none 0 0)) 5 (v_out)) 6 (.int .i64 c_)) 7 (.int .i64 i)) H (i_out :: L) (radomeref01_plus.R H0 L r) := by
 unfold radomeref01_plus.b0 at he
 unfold radomeref01_plus.Kl0
 refine w_seq ?_
 refine w_seq ?_
 refine w_region rfl ?_
 refine w_d rfl (d_move (v := .int .i64 i) rfl) ?_
 refine w_d rfl (d_move (v := v_a) rfl) ?_
 refine w_d rfl (d_len Tryd.underlying41 rfl h_a.src) ?_
 refine w_d rfl (d_lss rfl rfl) ?_
 refine w_d rfl (d_move (v := .bool (decide (i < (a.length : Int)))) rfl) ?_
 refine w_g (g := !(decide (i < (a.length : Int)))) rfl rfl rfl wn_f (fun g1 => d_move (v := .int .i64 i) rfl) ?_
 refine w_g (g := !(decide (i < (a.length : Int)))) rfl rfl rfl wn_f (fun g2 => d_move (v := v_b) rfl) ?_
 refine w_g (g := !(decide (i < (a.length : Int)))) rfl rfl rfl wn_f (fun g3 => d_len Tryd.underlying41 (cvt g3) h_b.src) ?_
 refine w_g (g := !(decide (i < (a.length : Int)))) rfl rfl rfl wn_f (fun g4 => d_lss (cvt g4) (cvt g4)) ?_
 refine w_d rfl (d_or' (b := (decide (i < (a.length : Int)))) (p := (decide (i < (b.length : Int)))) rfl rfl rfl) ?_
 refine w_done ?_
 rcases its he with ⟨c5, he⟩ | ⟨c5, he⟩
 ·
  refine w_then rfl c5 ?_
  refine w_skip ?_
  refine w_seq ?_
  refine w_block ?_
  refine w_seq ?_
  refine w_seq ?_
  refine w_region rfl ?_
  refine w_d rfl (d_move (v := .int .i64 i) rfl) ?_
  refine w_d rfl (d_move (v := v_a) rfl) ?_
  refine w_d rfl (d_len Tryd.underlying41 rfl h_a.src) ?_
  refine w_d rfl (d_lss rfl rfl) ?_
  refine w_done ?_
  rcases its he with ⟨c6, he⟩ | ⟨c6, he⟩
  ·
   refine w_then rfl (decide_eq_true c6) ?_
   refine w_region rfl ?_
   refine w_d rfl (d_move (v := .int .i64 c_) rfl) ?_
   refine w_d rfl (d_move (v := v_a) rfl) ?_
   refine w_d rfl (d_move (v := .int .i64 i) rfl) ?_
   obtain ⟨c7, he⟩ := rq he
   refine w_d rfl (d_index (sz := 1) Tryd.underlying41 sz3 rfl h_a.src rfl c7) ?_
   refine w_d rfl (d_ldint ty3 rfl h_a.src c7) ?_
   refine w_d rfl (d_add (c := w64 (c_ + (rd a i))) rfl rfl rfl) ?_
   refine w_d rfl (d_assign (v := .int .i64 (w64 (c_ + (rd a i)))) rfl) ?_
   refine w_done ?_
   refine w_sl 0 (v_a) rfl ?_
   refine w_sl 1 (v_b) rfl ?_
   refine w_sl 4 (.slice none 0 0) rfl ?_
   refine w_sl 5 (v_out) rfl ?_
   refine w_sl 6 (.int .i64 (w64 (c_ + (rd a i)))) rfl ?_
   refine w_sl 7 (.int .i64 i) rfl ?_
   exact radomeref01_plus.j2_ok (k := k) hh hle he h_a h_b h_out
  ·
   refine w_else rfl (decide_eq_false c6) ?_
   refine w_skip ?_
   refine w_sl 0 (v_a) rfl ?_
   refine w_sl 1 (v_b) rfl ?_
   refine w_sl 4 (.slice none 0 0) rfl ?_
   refine w_sl 5 (v_out) rfl ?_
   refine w_sl 6 (.int .i64 c_) rfl ?_
   refine w_sl 7 (.int .i64 i) rfl ?_
   exact radomeref01_plus.j2_ok (k := k) hh hle he h_a h_b h_out
 ·
  refine w_else rfl (Bool.eq_false_iff.2 c5) ?_
  refine w_exit rfl ?_
  refine w_seq ?_
  refine w_region rfl ?_
  refine w_d rfl (d_move (v := v_out) rfl) ?_
  refine w_d rfl (d_move (v := .int .i64 c_) rfl) ?_
  refine w_a rfl (o_buildSlice' (kd := (Kd.int .i64)) (css := [[.int .i64 c_]]) (xs := [c_]) (parts := [(0, .int .i64 c_)]) Tryd.underlying41 ti3 rfl ⟨_, _, rfl, rfl, rfl⟩ ⟨rfl, trivial⟩ rfl (by decide)) ?_
  rintro v8 _ _ ⟨i9, rfl, rfl, h10⟩
  obtain ⟨c11, he⟩ := rq he
  refine w_a rfl (o_append' (kd := (Kd.int .i64)) (F := fun z_ => i9 :: z_ :: L) Tryd.underlying41 Tryd.underlying41 ti3 rfl (by first | omega | (simp only [List.nil_append, List.length_cons, List.length_nil]; omega)) rfl rfl h_out (h10.src .here) (fun _ => (.there .here))) ?_
  rintro v12 _ _ ⟨i13, rfl, rfl, h14⟩
  refine w_freeze h14 (.there .here) ?_
  intro H15 e16 h17
  obtain ⟨y18, hy19, he⟩ := Option.bind_eq_some_iff.1 he
  refine w_a rfl (o_call co58 (vs := [v12]) rfl (radomeref01_trim.calls k hy19 h17)) ?_
  rintro v22 H20 _ ⟨rfl, e21, h23⟩
  refine w_d rfl (d_assign (v := v22) rfl) ?_
  refine w_done ?_
  obtain rfl := Option.some.inj he
  refine w_return fn_67 rs_67 (.tmp (v := v22) rfl .nil) ?_
  exact ⟨⟨[_, _], rfl⟩, hle.trans (e16.trans e21), h23⟩
theorem radomeref01_plus.ok : ∀ k, radomeref01_plus.OK (radomeref01_plus.hs k)
 | 0 => ⟨(by intros; exact nomatch (show none = some _ from by assumption))⟩
 | k + 1 => ⟨radomeref01_plus.b0_ok (k := k) (radomeref01_plus.ok k)⟩
set_option maxRecDepth 100000 in
set_option maxHeartbeats 2000000 in
theorem radomeref01_plus.calls (k : Nat) {H : Hp} {L : Items} {a : List Int} {b : List Int} {v0_a : Value} {v1_b : Value} {r : (List Int)} (he : radomeref01_plus.f k a b = some r) (h0_a : Ro (Kd.int .i64) H v0_a a) (h1_b : Ro (Kd.int .i64) H v1_b b) : Ct Tryd.prog 67 ⟨[v0_a, v1_b]⟩ H L (fun v H' L' => L = L' ∧ H.le H' ∧ radomeref01_plus.out r H' v) := by
 refine ct_out (O := radomeref01_plus.out r) ?_
 have hle : H.le H := .refl _
 have hh := radomeref01_plus.ok k
 unfold radomeref01_plus.f at he
 refine ct_enter (args := [v0_a, v1_b]) fn_67 rfl nt_67 rfl ?_
 refine w_seq ?_
 refine w_region rfl ?_
 refine w_d rfl (d_assign (v := .slice none 0 0) rfl) ?_
 refine w_done ?_
 refine w_seq ?_
 refine w_region rfl ?_
 refine w_d rfl (d_assign (v := .slice none 0 0) rfl) ?_
 refine w_done ?_
 refine w_seq ?_
 refine w_region rfl ?_
 refine w_d rfl (d_assign (v := .int .i64 0) rfl) ?_
 refine w_done ?_
 refine w_seq ?_
 refine w_seq ?_
 refine w_region rfl ?_
 refine w_d rfl (d_assign (v := .int .i64 0) rfl) ?_
 refine w_done ?_
 refine w_block ?_
 refine w_loop ?_
 refine w_none ?_
 refine w_sl 0 (v0_a) rfl ?_
 refine w_sl 1 (v1_b) rfl ?_
 refine w_sl 4 (.slice none 0 0) rfl ?_
 refine w_sl 5 (.slice none 0 0) rfl ?_
 refine w_sl 6 (.int .i64 0) rfl ?_
 refine w_sl 7 (.int .i64 0) rfl ?_
 exact hh.l0 hle he h0_a h1_b (sl_nil _ _ _)
/-! ### radome/radomeref01.Less -/
noncomputable def radomeref01_Less.C : Code := (Tryd.f64.body).getD .skip
def radomeref01_Less.out (r : Bool) (H : Hp) (v : Value) : Prop := v = .bool r
abbrev radomeref01_Less.R (H0 : Hp) (L : Items) (r : Bool) : Value → Hp → Items → Prop := fun v H' L' => (∃ p, L' = p ++ L) ∧ H0.le H' ∧ radomeref01_Less.out r H' v
structure radomeref01_Less.Hs where
 l0 : (List Int) → (List Int) → Bool → Int → Option Bool
noncomputable def radomeref01_Less.b0 (k : Nat) (h : radomeref01_Less.Hs)  (a : List Int) (b : List Int) (t4 : Bool) (i : Int) : Option Bool := if 0 ≤ i then (if 0 ≤ i ∧ i < (a.length : Int) then (if 0 ≤ i ∧ i < (b.length : Int) then (if (rd a i) = (rd b i) then (h.l0 a b t4 (w64 (i - 1))) else (if 0 ≤ i ∧ i < (a.length : Int) then (if 0 ≤ i ∧ i < (b.length : Int) then (some (decide ((rd a i) < (rd b i)))) else none) else none)) else none) else none) else (some (false))
noncomputable def radomeref01_Less.hs : Nat → radomeref01_Less.Hs
 | 0 => ⟨fun _ _ _ _ => none⟩
 | k + 1 => ⟨fun x0 x1 x2 x3 => radomeref01_Less.b0 k (radomeref01_Less.hs k) x0 x1 x2 x3⟩
noncomputable def radomeref01_Less.f (k : Nat) (a : List Int) (b : List Int) : Option Bool := (fun h : radomeref01_Less.Hs => if (a.length : Int) = (b.length : Int) then (h.l0 a b false (w64 ((a.length : Int) - 1))) else (some (decide ((a.length : Int) < (b.length : Int))))) (radomeref01_Less.hs k)
structure radomeref01_Less.LE (h h' : radomeref01_Less.Hs) : Prop where
 l0 : ∀ y0 y1 y2 y3, LeO (h.l0 y0 y1 y2 y3) (h'.l0 y0 y1 y2 y3)
theorem radomeref01_Less.b0_mono {k : Nat} {h h' : radomeref01_Less.Hs} (hl : radomeref01_Less.LE h h') : ∀ y0 y1 y2 y3, LeO (radomeref01_Less.b0 k h y0 y1 y2 y3) (radomeref01_Less.b0 (k + 1) h' y0 y1 y2 y3) := fun _ _ _ _ => (LeO.ite (LeO.ite (LeO.ite (LeO.ite (hl.l0 _ _ _ _) (LeO.ite (LeO.ite (LeO.refl _) (LeO.refl _)) (LeO.refl _))) (LeO.refl _)) (LeO.refl _)) (LeO.refl _))
theorem radomeref01_Less.hs_mono : ∀ k, radomeref01_Less.LE (radomeref01_Less.hs k) (radomeref01_Less.hs (k + 1))
 | 0 => ⟨fun _ _ _ _ => LeO.none _⟩
 | k + 1 => ⟨radomeref01_Less.b0_mono (k := k) (radomeref01_Less.hs_mono k)⟩
theorem radomeref01_Less.mono : ∀ k y0 y1, LeO (radomeref01_Less.f k y0 y1) (radomeref01_Less.f (k + 1) y0 y1) := fun k _ _ => have hl := radomeref01_Less.hs_mono k; by unfold radomeref01_Less.f; exact (LeO.ite (hl.l0 _ _ _ _) (LeO.refl _))
noncomputable def radomeref01_Less.Kl0 : List Item := .code (lopB (blkB (seqR (seqL (seqR (seqR radomeref01_Less.C)))))) :: .inLoop (lopB (blkB (seqR (seqL (seqR (seqR radomeref01_Less.C)))))) :: .inBlock 0 :: .code (seqR (seqR (seqR radomeref01_Less.C))) :: []
structure radomeref01_Less.OK (h : radomeref01_Less.Hs) : Prop where
 l0 : ∀ {H0 H : Hp} {L : Items} {r : Bool} {jk_ : Nat → Value} {a : List Int} {b : List Int} {t4 : Bool} {i : Int} {v_a : Value} {v_b : Value} (_ : H0.le H) (_he : h.l0 a b t4 i = some r) (_h_a : Ro (Kd.int .i64) H v_a a) (_h_b : Ro (Kd.int .i64) H v_b b), Wp Tryd.prog 64 41 radomeref01_Less.Kl0 (upd (upd (upd (upd jk_ 0 (v_a)) 1 (v_b)) 4 (.bool t4)) 5 (.int .i64 i)) H (L) (radomeref01_Less.R H0 L r)
set_option maxRecDepth 100000 in
set_option maxHeartbeats 2000000 in
theorem radomeref01_Less.b0_ok {k : Nat} {h : radomeref01_Less.Hs} (hh : radomeref01_Less.OK h) {H0 H : Hp} {L : Items} {r : Bool} {jk_ : Nat → Value} {a : List Int} {b : List Int} {t4 : Bool} {i : Int} {v_a : Value} {v_b : Value} (hle : H0.le H) (he : radomeref01_Less.b0 k h a b t4 i = some r) (h_a : Ro (Kd.int .i64) H v_a a) (h_b : Ro (Kd.int .i64) H v_b b) : Wp Tryd.prog 64 41 radomeref01_Less.Kl0 (upd (upd (upd (upd jk_ 0 (v_a)) 1 (v_b)) 4 (.bool t4)) 5 (.int .i64 i)) H (L) (radomeref01_Less.R H0 L r) := by
 unfold radomeref01_Less.b0 at he
 unfold radomeref01_Less.Kl0
 refine w_seq ?_
 refine w_seq ?_
 refine w_region rfl ?_
 refine w_d rfl (d_move (v := .int .i64 i) rfl) ?_
 refine w_d rfl (d_geq rfl rfl) ?_
 refine w_done ?_
 rcases its he with ⟨c2, he⟩ | ⟨c2, he⟩
 ·
  refine w_then rfl (decide_eq_true c2) ?_
  refine w_skip ?_
  refine w_seq ?_
  refine w_block ?_
  refine w_seq ?_
  obtain ⟨c3, he⟩ := rq he
  obtain ⟨c4, he⟩ := rq he
  refine w_drawn (p := 8) (tl := [8]) [[], [], [(0, some 23), (1, some 24)], [(2, some 25)], [], [], [(4, some 27), (5, some 28)], [(6, some 29)]] [some 23, some 24, some 25, some 26, some 27, some 28, some 29, some 30] (fctF [.is (v_a), .is (.int .i64 i), .is (.pointer (some (pel v_a i 1))), .is (.int .i64 (rd a i)), .is (v_b), .is (.int .i64 i), .is (.pointer (some (pel v_b i 1))), .is (.int .i64 (rd b i))]) (fun m_ => L) (fun _ => none) mixed (by kernel_rfl) (by kernel_rfl) rfl (fct_mono (by kernel_rfl)) ⟨(by intro H' m_ hH hm_ hu_; refine depK_nil ?_; exact s_d (m_ 0) rfl (d_move (v := v_a) rfl) (by exact rfl) rfl), (by intro H' m_ hH hm_ hu_; refine depK_nil ?_; exact s_d (m_ 1) rfl (d_move (v := .int .i64 i) rfl) (by exact rfl) rfl), (by intro H' m_ hH hm_ hu_; rintro _ rfl _ rfl; refine depK_nil ?_; exact s_d (m_ 2) rfl (d_index (sz := 1) Tryd.underlying41 sz3 rfl (h_a.mono hH).src rfl c3) (by exact rfl) rfl), (by intro H' m_ hH hm_ hu_; rintro _ rfl; refine depK_nil ?_; exact s_d (m_ 3) rfl (d_ldint ty3 rfl (h_a.mono hH).src c3) (by exact rfl) rfl), (by intro H' m_ hH hm_ hu_; refine depK_nil ?_; exact s_d (m_ 4) rfl (d_move (v := v_b) rfl) (by exact rfl) rfl), (by intro H' m_ hH hm_ hu_; refine depK_nil ?_; exact s_d (m_ 5) rfl (d_move (v := .int .i64 i) rfl) (by exact rfl) rfl), (by intro H' m_ hH hm_ hu_; rintro _ rfl _ rfl; refine depK_nil ?_; exact s_d (m_ 6) rfl (d_index (sz := 1) Tryd.underlying41 sz3 rfl (h_b.mono hH).src rfl c4) (by exact rfl) rfl), (by intro H' m_ hH hm_ hu_; rintro _ rfl; refine depK_nil ?_; exact s_d (m_ 7) rfl (d_ldint ty3 rfl (h_b.mono hH).src c4) (by exact rfl) rfl), trivial⟩ ?_
  intro H5 e6
  rintro _ _ rfl _ _ rfl _ _ rfl _ _ rfl _ _ rfl _ _ rfl _ _ rfl _ _ rfl
  refine w_d rfl (d_neq rfl rfl) ?_
  refine w_done ?_
  rcases its he with ⟨c7, he⟩ | ⟨c7, he⟩
  ·
   refine w_else rfl (nd_t c7) ?_
   refine w_skip ?_
   refine w_inBlock ?_
   refine w_region rfl ?_
   refine w_d rfl (d_move (v := .int .i64 i) rfl) ?_
   refine w_d rfl (d_sub (c := w64 (i - 1)) rfl rfl rfl) ?_
   refine w_d rfl (d_assign (v := .int .i64 (w64 (i - 1))) rfl) ?_
   refine w_done ?_
   refine w_inLoop ?_
   refine w_sl 0 (v_a) rfl ?_
   refine w_sl 1 (v_b) rfl ?_
   refine w_sl 4 (.bool t4) rfl ?_
   refine w_sl 5 (.int .i64 (w64 (i - 1))) rfl ?_
   exact hh.l0 (hle.trans e6) he (h_a.mono e6) (h_b.mono e6)
  ·
   refine w_then rfl (nd_f c7) ?_
   refine w_seq ?_
   obtain ⟨c8, he⟩ := rq he
   obtain ⟨c9, he⟩ := rq he
   refine w_drawn (p := 8) (tl := [8, 9]) [[], [], [(0, some 32), (1, some 33)], [(2, some 34)], [], [], [(4, some 36), (5, some 37)], [(6, some 38)]] [some 32, some 33, some 34, some 35, some 36, some 37, some 38, some 39] (fctF [.is (v_a), .is (.int .i64 i), .is (.pointer (some (pel v_a i 1))), .is (.int .i64 (rd a i)), .is (v_b), .is (.int .i64 i), .is (.pointer (some (pel v_b i 1))), .is (.int .i64 (rd b i))]) (fun m_ => L) (fun _ => none) mixed (by kernel_rfl) (by kernel_rfl) rfl (fct_mono (by kernel_rfl)) ⟨(by intro H' m_ hH hm_ hu_; refine depK_nil ?_; exact s_d (m_ 0) rfl (d_move (v := v_a) rfl) (by exact rfl) rfl), (by intro H' m_ hH hm_ hu_; refine depK_nil ?_; exact s_d (m_ 1) rfl (d_move (v := .int .i64 i) rfl) (by exact rfl) rfl), (by intro H' m_ hH hm_ hu_; rintro _ rfl _ rfl; refine depK_nil ?_; exact s_d (m_ 2) rfl (d_index (sz := 1) Tryd.underlying41 sz3 rfl (h_a.mono (e6.trans hH)).src rfl c8) (by exact rfl) rfl), (by intro H' m_ hH hm_ hu_; rintro _ rfl; refine depK_nil ?_; exact s_d (m_ 3) rfl (d_ldint ty3 rfl (h_a.mono (e6.trans hH)).src c8) (by exact rfl) rfl), (by intro H' m_ hH hm_ hu_; refine depK_nil ?_; exact s_d (m_ 4) rfl (d_move (v := v_b) rfl) (by exact rfl) rfl), (by intro H' m_ hH hm_ hu_; refine depK_nil ?_; exact s_d (m_ 5) rfl (d_move (v := .int .i64 i) rfl) (by exact rfl) rfl), (by intro H' m_ hH hm_ hu_; rintro _ rfl _ rfl; refine depK_nil ?_; exact s_d (m_ 6) rfl (d_index (sz := 1) Tryd.underlying41 sz3 rfl (h_b.mono (e6.trans hH)).src rfl c9) (by exact rfl) rfl), (by intro H' m_ hH hm_ hu_; rintro _ rfl; refine depK_nil ?_; exact s_d (m_ 7) rfl (d_ldint ty3 rfl (h_b.mono (e6.trans hH)).src c9) (by exact rfl) rfl), trivial⟩ ?_
   intro H10 e11
   rintro _ _ rfl _ _ rfl _ _ rfl _ _ rfl _ _ rfl _ _ rfl _ _ rfl _ _ rfl
   refine w_d rfl (d_lss rfl rfl) ?_
   refine w_d rfl (d_assign (v := .bool (decide ((rd a i) < (rd b i)))) rfl) ?_
   refine w_done ?_
   obtain rfl := Option.some.inj he
   refine w_return fn_64 rs_64 (.tmp (v := .bool (decide ((rd a i) < (rd b i)))) rfl .nil) ?_
   exact ⟨⟨[], rfl⟩, hle.trans (e6.trans e11), rfl⟩
 ·
  refine w_else rfl (decide_eq_false c2) ?_
  refine w_exit rfl ?_
  refine w_seq ?_
  refine w_region rfl ?_
  refine w_d rfl (d_assign (v := .bool false) rfl) ?_
  refine w_done ?_
  obtain rfl := Option.some.inj he
  refine w_return fn_64 rs_64 (.tmp (v := .bool false) rfl .nil) ?_
  exact ⟨⟨[], rfl⟩, hle, rfl⟩
theorem radomeref01_Less.ok : ∀ k, radomeref01_Less.OK (radomeref01_Less.hs k)
 | 0 => ⟨(by intros; exact nomatch (show none = some _ from by assumption))⟩
 | k + 1 => ⟨radomeref01_Less.b0_ok (k := k) (radomeref01_Less.ok k)⟩
set_option maxRecDepth 100000 in
set_option maxHeartbeats 2000000 in
theorem radomeref01_Less.calls (k : Nat) {H : Hp} {L : Items} {a : List Int} {b : List Int} {v0_a : Value} {v1_b : Value} {r : Bool} (he : radomeref01_Less.f k a b = some r) (h0_a : Ro (Kd.int .i64) H v0_a a) (h1_b : Ro (Kd.int .i64) H v1_b b) : Ct Tryd.prog 64 ⟨[v0_a, v1_b]⟩ H L (fun v H' L' => L = L' ∧ H = H' ∧ v = .bool r) := by
 refine ct_outs (O := radomeref01_Less.out r) (fun _ _ h => h) ?_
 have hle : H.le H := .refl _
 have hh := radomeref01_Less.ok k
 unfold radomeref01_Less.f at he
 refine ct_enter (args := [v0_a, v1_b]) fn_64 rfl nt_64 rfl ?_
 refine w_seq ?_
 refine w_region rfl ?_
 refine w_d rfl (d_assign (v := .bool false) rfl) ?_
 refine w_done ?_
 refine w_seq ?_
 refine w_seq ?_
 refine w_region rfl ?_
 refine w_d rfl (d_move (v := v0_a) rfl) ?_
 refine w_d rfl (d_len Tryd.underlying41 rfl h0_a.src) ?_
 refine w_d rfl (d_move (v := v1_b) rfl) ?_
 refine w_d rfl (d_len Tryd.underlying41 rfl h1_b.src) ?_
 refine w_d rfl (d_neq rfl rfl) ?_
 refine w_done ?_
 rcases its he with ⟨c1, he⟩ | ⟨c1, he⟩
 ·
  refine w_else rfl (nd_t c1) ?_
  refine w_skip ?_
  refine w_seq ?_
  refine w_seq ?_
  refine w_region rfl ?_
  refine w_d rfl (d_move (v := v0_a) rfl) ?_
  refine w_d rfl (d_len Tryd.underlying41 rfl h0_a.src) ?_
  refine w_d rfl (d_sub (c := w64 ((a.length : Int) - 1)) rfl rfl rfl) ?_
  refine w_d rfl (d_assign (v := .int .i64 (w64 ((a.length : Int) - 1))) rfl) ?_
  refine w_done ?_
  refine w_block ?_
  refine w_loop ?_
  refine w_sl 0 (v0_a) rfl ?_
  refine w_sl 1 (v1_b) rfl ?_
  refine w_sl 4 (.bool false) rfl ?_
  refine w_sl 5 (.int .i64 (w64 ((a.length : Int) - 1))) rfl ?_
  exact hh.l0 hle he h0_a h1_b
 ·
  refine w_then rfl (nd_f c1) ?_
  refine w_seq ?_
  refine w_region rfl ?_
  refine w_d rfl (d_move (v := v0_a) rfl) ?_
  refine w_d rfl (d_len Tryd.underlying41 rfl h0_a.src) ?_
  refine w_d rfl (d_move (v := v1_b) rfl) ?_
  refine w_d rfl (d_len Tryd.underlying41 rfl h1_b.src) ?_
  refine w_d rfl (d_lss rfl rfl) ?_
  refine w_d rfl (d_assign (v := .bool (decide ((a.length : Int) < (b.length : Int)))) rfl) ?_
  refine w_done ?_
  obtain rfl := Option.some.inj he
  refine w_return fn_64 rs_64 (.tmp (v := .bool (decide ((a.length : Int) < (b.length : Int)))) rfl .nil) ?_
  exact ⟨⟨[], rfl⟩, hle, rfl⟩
/-! ### radome/radomeref01.minus -/
noncomputable def radomeref01_minus.C : Code := (Tryd.f65.body).getD .skip
abbrev radomeref01_minus.out (r : (List Int)) (H : Hp) (v : Value) : Prop := Ro (Kd.int .i64) H v r
abbrev radomeref01_minus.R (H0 : Hp) (L : Items) (r : (List Int)) : Value → Hp → Items → Prop := fun v H' L' => (∃ p, L' = p ++ L) ∧ H0.le H' ∧ radomeref01_minus.out r H' v
structure radomeref01_minus.Hs where
 l0 : (List Int) → (List Int) → (List Int) → Int → Int → Option (List Int)
noncomputable def radomeref01_minus.j3 (k : Nat) (h : radomeref01_minus.Hs)  (a : List Int) (b : List Int) (out : List Int) (c_ : Int) (i : Int) (v_ : Int) : Option (List Int) := if out.length + 1 ≤ 17592186044288 then (h.l0 a b (out ++ [v_]) c_ (w64 (i + 1))) else none
noncomputable def radomeref01_minus.j2 (k : Nat) (h : radomeref01_minus.Hs)  (a : List Int) (b : List Int) (out : List Int) (c_ : Int) (i : Int) (v_ : Int) : Option (List Int) := if v_ < 0 then (radomeref01_minus.j3 k h a b out 1 i (w64 (v_ + 10))) else (radomeref01_minus.j3 k h a b out 0 i v_)
noncomputable def radomeref01_minus.b0 (k : Nat) (h : radomeref01_minus.Hs)  (a : List Int) (b : List Int) (out : List Int) (c_ : Int) (i : Int) : Option (List Int) := if i < (a.length : Int) then (if 0 ≤ i ∧ i < (a.length : Int) then (if i < (b.length : Int) then (if 0 ≤ i ∧ i < (b.length : Int) then (radomeref01_minus.j2 k h a b out c_ i (w64 ((w64 ((rd a i) - c_)) - (rd b i)))) else none) else (radomeref01_minus.j2 k h a b out c_ i (w64 ((rd a i) - c_)))) else none) else ((radomeref01_trim.f k out).bind fun y8 => some (y8))
noncomputable def radomeref01_minus.hs : Nat → radomeref01_minus.Hs
 | 0 => ⟨fun _ _ _ _ _ => none⟩
 | k + 1 => ⟨fun x0 x1 x2 x3 x4 => radomeref01_minus.b0 k (radomeref01_minus.hs k) x0 x1 x2 x3 x4⟩
noncomputable def radomeref01_minus.f (k : Nat) (a : List Int) (b : List Int) : Option (List Int) := (fun h : radomeref01_minus.Hs => h.l0 a b [] 0 0) (radomeref01_minus.hs k)
structure radomeref01_minus.LE (h h' : radomeref01_minus.Hs) : Prop where
 l0 : ∀ y0 y1 y2 y3 y4, LeO (h.l0 y0 y1 y2 y3 y4) (h'.l0 y0 y1 y2 y3 y4)
theorem radomeref01_minus.j3_mono {k : Nat} {h h' : radomeref01_minus.Hs} (hl : radomeref01_minus.LE h h') : ∀ y0 y1 y2 y3 y4 y5, LeO (radomeref01_minus.j3 k h y0 y1 y2 y3 y4 y5) (radomeref01_minus.j3 (k + 1) h' y0 y1 y2 y3 y4 y5) := fun _ _ _ _ _ _ => (LeO.ite (hl.l0 _ _ _ _ _) (LeO.refl _))
theorem radomeref01_minus.j2_mono {k : Nat} {h h' : radomeref01_minus.Hs} (hl : radomeref01_minus.LE h h') : ∀ y0 y1 y2 y3 y4 y5, LeO (radomeref01_minus.j2 k h y0 y1 y2 y3 y4 y5) (radomeref01_minus.j2 (k + 1) h' y0 y1 y2 y3 y4 y5) := fun _ _ _ _ _ _ => (LeO.ite (radomeref01_minus.j3_mono (k := k) hl _ _ _ _ _ _) (radomeref01_minus.j3_mono (k := k) hl _ _ _ _ _ _))
theorem radomeref01_minus.b0_mono {k : Nat} {h h' : radomeref01_minus.Hs} (hl : radomeref01_minus.LE h h') : ∀ y0 y1 y2 y3 y4, LeO (radomeref01_minus.b0 k h y0 y1 y2 y3 y4) (radomeref01_minus.b0 (k + 1) h' y0 y1 y2 y3 y4) := fun _ _ _ _ _ => (LeO.ite (LeO.ite (LeO.ite (LeO.ite (radomeref01_minus.j2_mono (k := k) hl _ _ _ _ _ _) (LeO.refl _)) (radomeref01_minus.j2_mono (k := k) hl _ _ _ _ _ _)) (LeO.refl _)) (LeO.bind (radomeref01_trim.mono k _) fun _ => LeO.refl _))
theorem radomeref01_minus.hs_mono : ∀ k, radomeref01_minus.LE (radomeref01_minus.hs k) (radomeref01_minus.hs (k + 1))
 | 0 => ⟨fun _ _ _ _ _ => LeO.none _⟩
 | k + 1 => ⟨radomeref01_minus.b0_mono (k := k) (radomeref01_minus.hs_mono k)⟩
theorem radomeref01_minus.mono : ∀ k y0 y1, LeO (radomeref01_minus.f k y0 y1) (radomeref01_minus.f (k + 1) y0 y1) := fun k _ _ => have hl := radomeref01_minus.hs_mono k; by unfold radomeref01_minus.f; exact (hl.l0 _ _ _ _ _)
noncomputable def radomeref01_minus.Kl0 : List Item := .code (lopB (blkB (seqR (seqL (seqR (seqR (seqR radomeref01_minus.C))))))) :: .inLoop (lopB (blkB (seqR (seqL (seqR (seqR (seqR radomeref01_minus.C))))))) :: .inBlock 0 :: .code (seqR (seqR (seqR (seqR radomeref01_minus.C)))) :: []
noncomputable def radomeref01_minus.Kj2 : List Item := .code (seqR (seqR (blkB (seqL (seqR (lopB (blkB (seqR (seqL (seqR (seqR (seqR radomeref01_minus.C)))))))))))) :: .inBlock 1 :: .code (seqR (seqR (lopB (blkB (seqR (seqL (seqR (seqR (seqR radomeref01_minus.C))))))))) :: .inLoop (lopB (blkB (seqR (seqL (seqR (seqR (seqR radomeref01_minus.C))))))) :: .inBlock 0 :: .code (seqR (seqR (seqR (seqR radomeref01_minus.C)))) :: []
noncomputable def radomeref01_minus.Kj3 : List Item := .code (seqR (seqR (seqR (seqR (blkB (seqL (seqR (lopB (blkB (seqR (seqL (seqR (seqR (seqR radomeref01_minus.C)))))))))))))) :: .inBlock 1 :: .code (seqR (seqR (lopB (blkB (seqR (seqL (seqR (seqR (seqR radomeref01_minus.C))))))))) :: .inLoop (lopB (blkB (seqR (seqL (seqR (seqR (seqR radomeref01_minus.C))))))) :: .inBlock 0 :: .code (seqR (seqR (seqR (seqR radomeref01_minus.C)))) :: []
structure radomeref01_minus.OK (h : radomeref01_minus.Hs) : Prop where
 l0 : ∀ {H0 H : Hp} {L : Items} {r : (List Int)} {jk_ : Nat → Value} {a : List Int} {b : List Int} {out : List Int} {c_ : Int} {i : Int} {v_a : Value} {v_b : Value} {v_out : Value} {i_out : Item'} (_ : H0.le H) (_he : h.l0 a b out c_ i = some r) (_h_a : Ro (Kd.int .i64) H v_a a) (_h_b : Ro (Kd.int .i64) H v_b b) (_h_out : Sl (Kd.int .i64) H 3 i_out v_out out), Wp Tryd.prog 65 41 radomeref01_minus.Kl0 (upd (upd (upd (upd (upd (upd jk_ 0 (v_a)) 1 (v_b)) 4 (.slice none 0 0)) 5 (v_out)) 6 (.int .i64 c_)) 7 (.int .i64 i)) H (i_out :: L) (radomeref01_minus.R H0 L r)
set_option maxRecDepth 100000 in
set_option maxHeartbeats 2000000 in
theorem radomeref01_minus.j3_ok {k : Nat} {h : radomeref01_minus.Hs} (hh : radomeref01_minus.OK h) {H0 H : Hp} {L : Items} {r : (List Int)} {jk_ : Nat → Value} {a : List Int} {b : List Int} {out : List Int} {c_ : Int} {i : Int} {v_ : Int} {v_a : Value} {v_b : Value} {v_out : Value} {i_out : Item'} (hle : H0.le H) (he : radomeref01_minus.j3 k h a b out c_ i v_ = some r) (h_a : Ro (Kd.int .i64) H v_a a) (h_b : Ro (Kd.int .i64) H v_b b) (h_out : Sl (Kd.int .i64) H 3 i_out v_out out) : Wp Tryd.prog 65 41 radomeref01_minus.Kj3 (upd (upd (upd (upd (upd (upd (upd jk_ 0 (v_a)) 1 (v_b)) 4 (.slice none 0 0)) 5 (v_out)) 6 (.int .i64 c_)) 7 (.int .i64 i)) 8 (.int .i64 v_)) H (i_out :: L) (radomeref01_minus.R H0 L r) := by
 unfold radomeref01_minus.j3 at he
 unfold radomeref01_minus.Kj3
 refine w_region rfl ?_
 refine w_d rfl (d_move (v := v_out) rfl) ?_
 refine w_d rfl (d_move (v := .int .i64 v_) rfl) ?_
 refine w_a rfl (o_buildSlice' (kd := (Kd.int .i64)) (css := [[.int .i64 v_]]) (xs := [v_]) (parts := [(0, .int .i64 v_)]) Tryd.underlying41 ti3 rfl ⟨_, _, rfl, rfl, rfl⟩ ⟨rfl, trivial⟩ rfl (by decide)) ?_
 rintro v15 _ _ ⟨i16, rfl, rfl, h17⟩
 obtain ⟨c18, he⟩ := rq he
 refine w_a rfl (o_append' (kd := (Kd.int .i64)) (F := fun z_ => i16 :: z_ :: L) Tryd.underlying41 Tryd.underlying41 ti3 rfl (by first | omega | (simp only [List.nil_append, List.length_cons, List.length_nil]; omega)) rfl rfl h_out (h17.src .here) (fun _ => (.there .here))) ?_
 rintro v19 _ _ ⟨i20, rfl, rfl, h21⟩
 refine w_d rfl (d_assign (v := v19) rfl) ?_
 refine w_done ?_
 refine w_inBlock ?_
 refine w_region rfl ?_
 refine w_d rfl (d_move (v := .int .i64 i) rfl) ?_
 refine w_d rfl (d_add (c := w64 (i + 1)) rfl rfl rfl) ?_
 refine w_d rfl (d_assign (v := .int .i64 (w64 (i + 1))) rfl) ?_
 refine w_done ?_
 refine w_inLoop ?_
 refine w_del .here ?_
 refine w_sl 0 (v_a) rfl ?_
 refine w_sl 1 (v_b) rfl ?_
 refine w_sl 4 (.slice none 0 0) rfl ?_
 refine w_sl 5 (v19) rfl ?_
 refine w_sl 6 (.int .i64 c_) rfl ?_
 refine w_sl 7 (.int .i64 (w64 (i + 1))) rfl ?_
 exact hh.l0 hle he h_a h_b h21
set_option maxRecDepth 100000 in
set_option maxHeartbeats 2000000 in
theorem radomeref01_minus.j2_ok {k : Nat} {h : radomeref01_minus.Hs} (hh : radomeref01_minus.OK h) {H0 H : Hp} {L : Items} {r : (List Int)} {jk_ : Nat → Value} {a : List Int} {b : List Int} {out : List Int} {c_ : Int} {i : Int} {v_ : Int} {v_a : Value} {v_b : Value} {v_out : Value} {i_out : Item'} (hle : H0.le H) (he : radomeref01_minus.j2 k h a b out c_ i v_ = some r) (h_a : Ro (Kd.int .i64) H v_a a) (h_b : Ro (Kd.int .i64) H v_b b) (h_out : Sl (Kd.int .i64) H 3 i_out v_out out) : Wp Tryd.prog 65 41 radomeref01_minus.Kj2 (upd (upd (upd (upd (upd (upd (upd jk_ 0 (v_a)) 1 (v_b)) 4 (.slice none 0 0)) 5 (v_out)) 6 (.int .i64 c_)) 7 (.int .i64 i)) 8 (.int .i64 v_)) H (i_out :: L) (radomeref01_minus.R H0 L r) := by
 unfold radomeref01_minus.j2 at he
 unfold radomeref01_minus.Kj2
 refine w_seq ?_
 refine w_region rfl ?_
 refine w_d rfl (d_assign (v := .int .i64 0) rfl) ?_
 refine w_done ?_
 refine w_seq ?_
 refine w_seq ?_
 refine w_region rfl ?_
 refine w_d rfl (d_move (v := .int .i64 v_) rfl) ?_
 refine w_d rfl (d_lss rfl rfl) ?_
 refine w_done ?_
 rcases its he with ⟨c14, he⟩ | ⟨c14, he⟩
 ·
  refine w_then rfl (decide_eq_true c14) ?_
  refine w_seq ?_
  refine w_region rfl ?_
  refine w_d rfl (d_move (v := .int .i64 v_) rfl) ?_
  refine w_d rfl (d_add (c := w64 (v_ + 10)) rfl rfl rfl) ?_
  refine w_d rfl (d_assign (v := .int .i64 (w64 (v_ + 10))) rfl) ?_
  refine w_done ?_
  refine w_region rfl ?_
  refine w_d rfl (d_assign (v := .int .i64 1) rfl) ?_
  refine w_done ?_
  refine w_sl 0 (v_a) rfl ?_
  refine w_sl 1 (v_b) rfl ?_
  refine w_sl 4 (.slice none 0 0) rfl ?_
  refine w_sl 5 (v_out) rfl ?_
  refine w_sl 6 (.int .i64 1) rfl ?_
  refine w_sl 7 (.int .i64 i) rfl ?_
  refine w_sl 8 (.int .i64 (w64 (v_ + 10))) rfl ?_
  exact radomeref01_minus.j3_ok (k := k) hh hle he h_a h_b h_out
 ·
  refine w_else rfl (decide_eq_false c14) ?_
  refine w_skip ?_
  refine w_sl 0 (v_a) rfl ?_
  refine w_sl 1 (v_b) rfl ?_
  refine w_sl 4 (.slice none 0 0) rfl ?_
  refine w_sl 5 (v_out) rfl ?_
  refine w_sl 6 (.int .i64 0) rfl ?_
  refine w_sl 7 (.int .i64 i) rfl ?_
  refine w_sl 8 (.int .i64 v_) rfl ?_
  exact radomeref01_minus.j3_ok (k := k) hh hle he h_a h_b h_out
set_option maxRecDepth 100000 in
set_option maxHeartbeats 2000000 in
theorem radomeref01_minus.b0_ok {k : Nat} {h : radomeref01_minus.Hs} (hh : radomeref01_minus.OK h) {H0 H : Hp} {L : Items} {r : (List Int)} {jk_ : Nat → Value} {a : List Int} {b : List Int} {out : List Int} {c_ : Int} {i : Int} {v_a : Value} {v_b : Value} {v_out : Value} {i_out : Item'} (hle : H0.le H) (he : radomeref01_minus.b0 k h a b out c_ i = some r) (h_a : Ro (Kd.int .i64) H v_a a) (h_b : Ro (Kd.int .i64) H v_b b) (h_out : Sl (Kd.int .i64) H 3 i_out v_out out) : Wp Tryd.prog 65 41 radomeref01_minus.Kl0 (upd (upd (upd (upd (upd (upd jk_ 0 (v_a)) 1 (v_b)) 4 (.slice none 0 0)) 5 (v_out)) 6 (.int .i64 c_)) 7 (.int .i64 i)) H (i_out :: L) (radomeref01_minus.R H0 L r) := by
 unfold radomeref01_minus.b0 at he
 unfold radomeref01_minus.Kl0
 refine w_seq ?_
 refine w_seq ?_
 refine w_region rfl ?_
 refine w_d rfl (d_move (v := .int .i64 i) rfl) ?_
 refine w_d rfl (d_move (v := v_a) rfl) ?_
 refine w_d rfl (d_len Tryd.underlying41 rfl h_a.src) ?_
 refine w_d rfl (d_lss rfl rfl) ?_
 refine w_done ?_
 rcases its he with ⟨c1, he⟩ | ⟨c1, he⟩
 ·
  refine w_then rfl (decide_eq_true c1) ?_
  refine w_skip ?_
  refine w_seq ?_
  refine w_block ?_
  refine w_seq ?_
  refine w_region rfl ?_
  refine w_d rfl (d_move (v := v_a) rfl) ?_
  refine w_d rfl (d_move (v := .int .i64 i) rfl) ?_
  obtain ⟨c2, he⟩ := rq he
  refine w_d rfl (d_index (sz := 1) Tryd.underlying41 sz3 rfl h_a.src rfl c2) ?_
  refine w_d rfl (d_ldint ty3 rfl h_a.src c2) ?_
  refine w_d rfl (d_move (v := .int .i64 c_) rfl) ?_
  refine w_d rfl (d_sub (c := w64 ((rd a i) - c_)) rfl rfl rfl) ?_
  refine w_d rfl (d_assign (v := .int .i64 (w64 ((rd a i) - c_))) rfl) ?_
  refine w_done ?_
  refine w_seq ?_
  refine w_seq ?_
  refine w_region rfl ?_
  refine w_d rfl (d_move (v := .int .i64 i) rfl) ?_
  refine w_d rfl (d_move (v := v_b) rfl) ?_
  refine w_d rfl (d_len Tryd.underlying41 rfl h_b.src) ?_
  refine w_d rfl (d_lss rfl rfl) ?_
  refine w_done ?_
  rcases its he with ⟨c3, he⟩ | ⟨c3, he⟩
  ·
   refine w_then rfl (decide_eq_true c3) ?_
   refine w_region rfl ?_
   refine w_d rfl (d_move (v := .int .i64 (w64 ((rd a i) - c_))) rfl) ?_
   refine w_d rfl (d_move (v := v_b) rfl) ?_
   refine w_d rfl (d_move (v := .int .i64 i) rfl) ?_
   obtain ⟨c4, he⟩ := rq he
   refine w_d rfl (d_index (sz := 1) Tryd.underlying41 sz3 rfl h_b.src rfl c4) ?_
   refine w_d rfl (d_ldint ty3 rfl h_b.src c4) ?_
   refine w_d rfl (d_sub (c := w64 ((w64 ((rd a i) - c_)) - (rd b i))) rfl rfl rfl) ?_
   refine w_d rfl (d_assign (v := .int .i64 (w64 ((w64 ((rd a i) - c_)) - (rd b i)))) rfl) ?_
   refine w_done ?_
   refine w_sl 0 (v_a) rfl ?_
   refine w_sl 1 (v_b) rfl ?_
   refine w_sl 4 (.slice none 0 0) rfl ?_
   refine w_sl 5 (v_out) rfl ?_
   refine w_sl 6 (.int .i64 c_) rfl ?_
   refine w_sl 7 (.int .i64 i) rfl ?_
   refine w_sl 8 (.int .i64 (w64 ((w64 ((rd a i) - c_)) - (rd b i)))) rfl ?_
   exact radomeref01_minus.j2_ok (k := k) hh hle he h_a h_b h_out
  ·
   refine w_else rfl (decide_eq_false c3) ?_
   refine w_skip ?_
   refine w_sl 0 (v_a) rfl ?_
   refine w_sl 1 (v_b) rfl ?_
   refine w_sl 4 (.slice none 0 0) rfl ?_
   refine w_sl 5 (v_out) rfl ?_
   refine w_sl 6 (.int .i64 c_) rfl ?_
   refine w_sl 7 (.int .i64 i) rfl ?_
   refine w_sl 8 (.int .i64 (w64 ((rd a i) - c_))) rfl ?_
   exact radomeref01_minus.j2_ok (k := k) hh hle he h_a h_b h_out
 ·
  refine w_else rfl (decide_eq_false c1) ?_
  refine w_exit rfl ?_
  refine w_seq ?_
  refine w_region rfl ?_
  refine w_d rfl (d_move (v := v_out) rfl) ?_
  refine w_freeze h_out .here ?_
  intro H5 e6 h7
  obtain ⟨y8, hy9, he⟩ := Option.bind_eq_some_iff.1 he
  refine w_a rfl (o_call co58 (vs := [v_out]) rfl (radomeref01_trim.calls k hy9 h7)) ?_
  rintro v12 H10 _ ⟨rfl, e11, h13⟩
  refine w_d rfl (d_assign (v := v12) rfl) ?_
  refine w_done ?_
  obtain rfl := Option.some.inj he
  refine w_return fn_65 rs_65 (.tmp (v := v12) rfl .nil) ?_
  exact ⟨⟨[_], rfl⟩, hle.trans (e6.trans e11), h13⟩
theorem radomeref01_minus.ok : ∀ k, radomeref01_minus.OK (radomeref01_minus.hs k)
 | 0 => ⟨(by intros; exact nomatch (show none = some _ from by assumption))⟩
 | k + 1 => ⟨radomeref01_minus.b0_ok (k := k) (radomeref01_minus.ok k)⟩
set_option maxRecDepth 100000 in
set_option maxHeartbeats 2000000 in
theorem radomeref01_minus.calls (k : Nat) {H : Hp} {L : Items} {a : List Int} {b : List Int} {v0_a : Value} {v1_b : Value} {r : (List Int)} (he : radomeref01_minus.f k a b = some r) (h0_a : Ro (Kd.int .i64) H v0_a a) (h1_b : Ro (Kd.int .i64) H v1_b b) : Ct Tryd.prog 65 ⟨[v0_a, v1_b]⟩ H L (fun v H' L' => L = L' ∧ H.le H' ∧ radomeref01_minus.out r H' v) := by
 refine ct_out (O := radomeref01_minus.out r) ?_
 have hle : H.le H := .refl _
 have hh := radomeref01_minus.ok k
 unfold radomeref01_minus.f at he
 refine ct_enter (args := [v0_a, v1_b]) fn_65 rfl nt_65 rfl ?_
 refine w_seq ?_
 refine w_region rfl ?_
 refine w_d rfl (d_assign (v := .slice none 0 0) rfl) ?_
 refine w_done ?_
 refine w_seq ?_
 refine w_region rfl ?_
 refine w_d rfl (d_assign (v := .slice none 0 0) rfl) ?_
 refine w_done ?_
 refine w_seq ?_
 refine w_region rfl ?_
 refine w_d rfl (d_assign (v := .int .i64 0) rfl) ?_
 refine w_done ?_
 refine w_seq ?_
 refine w_seq ?_
 refine w_region rfl ?_
 refine w_d rfl (d_assign (v := .int .i64 0) rfl) ?_
 refine w_done ?_
 refine w_block ?_
 refine w_loop ?_
 refine w_none ?_
 refine w_sl 0 (v0_a) rfl ?_
 refine w_sl 1 (v1_b) rfl ?_
 refine w_sl 4 (.slice none 0 0) rfl ?_
 refine w_sl 5 (.slice none 0 0) rfl ?_
 refine w_sl 6 (.int .i64 0) rfl ?_
 refine w_sl 7 (.int .i64 0) rfl ?_
 exact hh.l0 hle he h0_a h1_b (sl_nil _ _ _)
end Go.Proofs.YtddcfnhbedpbnaaDoor.GTR

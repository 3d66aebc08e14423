/- The law BestProved, as its given statement has it: for every input the call returns true, and each argument reads behind it as before. Out of the pure statement and the walk of the code. -/
import Derived.Test.YtacbficpehmlnaaRows
import Derived.Test.YtacbficpehmlnaaGBQk15
import Derived.Test.YtacbficpehmlnaaPureBestProved
import Derived.WalkKit
import Derived.ProofKit
import Derived.OpenShut
import Derived.ShutString
import Derived.ChangeOld
import Derived.Below
import Derived.SizedLaws
import Derived.Carry
import Derived.ChangeSame
import Derived.ChangeVars
import Derived.JoinedOf
import Derived.RowKit
import Derived.RowKitTokens
import Derived.LaidLaws
import Derived.LaidHandle
import Derived.Stop.Joined
import Derived.SevenTiedAt
import Derived.Handed
namespace Go.Proofs.Ytacbficpehmlnaa.bestProved
open Go.ChangeShapes Go.WideShapes Go.ChangeAt Go.RowKit
open Go.ChangeMaps (open_string shut_string)
open Go.Proofs.YtacbficpehmlnaaK
open Go.Proofs.Ytacbficpehmlnaa.GBQ
set_option linter.unusedVariables false
set_option linter.unusedSimpArgs false
theorem own : ownKnob Try.prog.godebug = none := by kernel_rfl
theorem laidOut : laidOutB Try.prog = true := by kernel_rfl
set_option maxRecDepth 100000 in
theorem lifted (os : Os) (started : os.Started) (H : Type) (enc : TypeId × Value → H) :
    ReturnsInHanded {} Try.checked os 5 .any (Rows.bestProvedSpec.pre6 enc Try.prog Try.f5 Rows.bestProvedRow.domain false) (Rows.bestProvedSpec.post enc Try.prog Try.f5 false true false false) := by
  refine returnsInHanded_of_change_sized (C := Try.checked) own started (by kernel_rfl) Try.func5
    (ChangeSpec.witness6 (enc := enc) (C := Try.checked) false ⟨#[], #[.agg #[.slice none 0 0, .int .i64 0], .slice none 0 0], []⟩ 8 (by kernel_rfl) (by kernel_rfl) (by kernel_rfl) (by kernel_rfl)) ?_
  intro W base args ds gs before hval0 hW hcnd hsz0 _
  have hsz : (DataW.weightsEach Try.prog (Try.f5.params.toList ++ Rows.bestProvedSpec.plain.varTypes Try.prog) (ds ++ gs)).all (· ≤ reachBytes) = true := hsz0
  have hval : ∀ (j : Nat) t v, Try.f5.params[j]? = some t → args[j]? = some v → Value.okWide Try.prog W .any base t v := hval0
  have hW' := hW
  obtain ⟨p, q, hA0, hV0, rfl, hfz, hnd⟩ := hW
  have hA : DataW.TrodAll enc Try.prog W 0 (fun _ => true) true Try.f5.params.toList args.toList ds p := hA0
  have hV : DataW.TrodVars enc Try.prog W (fun _ => true) [] gs q := hV0
  rw [Try.params5] at hA hval hsz
  obtain ⟨v0, vs0, d0, ds0, p0, q0, hargs, rfl, rfl, h0, r0⟩ := trodAll_cons hA
  obtain ⟨v1, vs1, d1, ds1, p1, q1, rfl, rfl, rfl, h1, r1⟩ := trodAll_cons r0
  obtain ⟨rfl, rfl, rfl⟩ := trodAll_nil r1
  obtain rfl : args = #[v0, v1] := by cases args; simp_all
  obtain ⟨rfl, rfl⟩ := trodVars_none hV
  have hfit := Fits.of_all hsz
  have k0 := h0
  have lt0 : ∀ x ∈ p0, x.block < W.heap.size := by obtain ⟨m, hm⟩ := k0; exact DataW.trod_lt m _ _ _ hm
  obtain ⟨fu0, hf0⟩ := h0
  obtain ⟨y0, hK0, hy0⟩ := ((Opn.map (opn_struct Try.underlying24 (by kernel_rfl) (OpnF.cons (opn_slice (B := 24) Try.underlying22 (by kernel_rfl) (by kernel_rfl) (by intro h_; cases h_) (opn_slice (B := 8) Try.underlying29 (by kernel_rfl) (by kernel_rfl) (by intro h_; cases h_) (opn_int Try.underlying2 (by kernel_rfl)))) 0 (OpnF.one (opn_int Try.underlying2 (by kernel_rfl)) 1))) (fun z_ : radomeref20_Costs => (z_.f_Rows, z_.f_Miss)) (fun y_ => (⟨y_.1, y_.2⟩ : radomeref20_Costs)) (fun _ => rfl))).op hf0 (weights_each (j := 0) (t := 24) rfl rfl hfit)
  clear hf0
  obtain ⟨cs0, ev0, hsz0⟩ : ∃ cs, v0 = .agg cs ∧ cs.size = Try.prog.cellsOf 24 := by have h_ := (hval 0 24 v0 rfl rfl); simp only [Value.okWide, Try.underlying24] at h_; obtain ⟨cs, h1, h2, _⟩ := h_; exact ⟨cs, h1, h2⟩
  subst ev0
  obtain ⟨w0_0, ecs0, hr0_0⟩ := k_radomeref20_Costs_out hK0
  have ecs0 : cs0.toList = _ := ecs0
  obtain rfl := Array.ext' (ys := ⟨_⟩) ecs0
  have k1 := h1
  have lt1 : ∀ x ∈ p1, x.block < W.heap.size := by obtain ⟨m, hm⟩ := k1; exact DataW.trod_lt m _ _ _ hm
  obtain ⟨fu1, hf1⟩ := h1
  obtain ⟨y1, hK1, hy1⟩ := ((opn_slice (B := 8) Try.underlying31 (by kernel_rfl) (by kernel_rfl) (by intro h_; cases h_) (opn_int Try.underlying3 (by kernel_rfl)))).op hf1 (weights_each (j := 1) (t := 31) rfl rfl hfit)
  clear hf1
  obtain ⟨a1, len1, cap1, rfl⟩ := okWide_slice Try.underlying31 (hval 1 31 v1 rfl rfl)
  obtain ⟨u1, e1, hr1⟩ := hK1
  have e1 : [Value.slice a1 len1 cap1] = [u1] := e1
  obtain rfl : u1 = .slice a1 len1 cap1 := by simpa using e1.symm
  clear hA0 hval0 hsz0 hsz hfit
  obtain ⟨k, hk⟩ := Pure.BestProved y0 y1 hy0 hy1
  refine (law_end (radomelaw22_BestProved.calls k hk hr0_0 hr1)).mono fun e W' ⟨he, bel⟩ => ?_
  subst he
  exact ⟨_, rfl, _, _, _, [], _, [], hW', trodAll_mk1 (shut_bool Try.underlying4 _), (trodAll_cons_mk (Below.trod laidOut (by kernel_rfl) (of_decide_eq_true (by kernel_rfl)) k0 bel lt0) (trodAll_cons_mk (Below.trod laidOut (by kernel_rfl) (of_decide_eq_true (by kernel_rfl)) k1 bel lt1) trodAll_mk0)), rfl, bel.frame _, fun h => by cases h⟩
theorem over : Rows.bestProvedRow.holds Try.pinned (OpenSpec.ofChange Rows.bestProvedSpec) :=
  OpenClaim.holds_of_wide 5 Try.f5 rfl rfl rfl rfl rfl rfl rfl ⟨rfl, rfl, rfl, rfl, rfl⟩ rfl rfl rfl rfl rfl (by kernel_rfl) Try.func5 (by kernel_rfl)
    (of_decide_eq_true (by kernel_rfl)) (by unfold Func.isWrapper; first | (rw [if_pos (by decide +kernel)]; kernel_rfl) | (rw [if_neg (by decide +kernel)]; exact ⟨rfl, rfl⟩))
    (fun os started H enc _ => lifted os started H enc)
theorem proved : Rows.BestProvedSaid := over
#print axioms proved
end Go.Proofs.Ytacbficpehmlnaa.bestProved
namespace Go.Proofs.Ytacbficpehmlnaa
/-- The row, under a short name, for the claim. -/
theorem bestProved_holds : Rows.BestProvedSaid := bestProved.proved
end Go.Proofs.Ytacbficpehmlnaa

/- The law ZoneSame, as its given statement has it: for every input the call returns true, and each argument reads behind it as before. Out of the pure statement and the walk of the code. -/
import Derived.Test.YtoijknggnlbopaaRows
import Derived.Test.YtoijknggnlbopaaGZSk16
import Derived.Test.YtoijknggnlbopaaPureZoneSame
import Derived.WalkKit
import Derived.ProofKit
import Derived.OpenShut
import Derived.ShutString
import Derived.ChangeOld
import Derived.Below
import Derived.SizedLaws
import Derived.Carry
import Derived.ChangeSame
import Derived.ChangeVars
import Derived.JoinedOf
import Derived.RowKit
import Derived.RowKitTokens
import Derived.LaidLaws
import Derived.LaidHandle
import Derived.Stop.Joined
import Derived.SevenTiedAt
import Derived.Handed
namespace Go.Proofs.Ytoijknggnlbopaa.zoneSame
open Go.ChangeShapes Go.WideShapes Go.ChangeAt Go.RowKit
open Go.ChangeMaps (open_string shut_string)
open Go.Proofs.YtoijknggnlbopaaK
open Go.Proofs.Ytoijknggnlbopaa.GZS
set_option linter.unusedVariables false
set_option linter.unusedSimpArgs false
theorem own : ownKnob Try.prog.godebug = none := by kernel_rfl
theorem laidOut : laidOutB Try.prog = true := by kernel_rfl
set_option maxRecDepth 100000 in
theorem lifted (os : Os) (started : os.Started) (H : Type) (enc : TypeId × Value → H) :
    ReturnsInHanded {} Try.checked os 3 .any (Rows.zoneSameSpec.pre6 enc Try.prog Try.f3 Rows.zoneSameRow.domain false) (Rows.zoneSameSpec.post enc Try.prog Try.f3 false true false false) := by
  refine returnsInHanded_of_change_sized (C := Try.checked) own started (by kernel_rfl) Try.func3
    (ChangeSpec.witness6 (enc := enc) (C := Try.checked) false ⟨#[], #[.agg #[.string ⟨#[]⟩, .slice none 0 0], .agg #[.int .i32 0, .int .i32 0], .int .i64 0], []⟩ 8 (by kernel_rfl) (by kernel_rfl) (by kernel_rfl) (by kernel_rfl)) ?_
  intro W base args ds gs before hval0 hW hcnd hsz0 _
  have hsz : (DataW.weightsEach Try.prog (Try.f3.params.toList ++ Rows.zoneSameSpec.plain.varTypes Try.prog) (ds ++ gs)).all (· ≤ reachBytes) = true := hsz0
  have hval : ∀ (j : Nat) t v, Try.f3.params[j]? = some t → args[j]? = some v → Value.okWide Try.prog W .any base t v := hval0
  have hW' := hW
  obtain ⟨p, q, hA0, hV0, rfl, hfz, hnd⟩ := hW
  have hA : DataW.TrodAll enc Try.prog W 0 (fun _ => true) true Try.f3.params.toList args.toList ds p := hA0
  have hV : DataW.TrodVars enc Try.prog W (fun _ => true) [] gs q := hV0
  rw [Try.params3] at hA hval hsz
  obtain ⟨v0, vs0, d0, ds0, p0, q0, hargs, rfl, rfl, h0, r0⟩ := trodAll_cons hA
  obtain ⟨v1, vs1, d1, ds1, p1, q1, rfl, rfl, rfl, h1, r1⟩ := trodAll_cons r0
  obtain ⟨v2, vs2, d2, ds2, p2, q2, rfl, rfl, rfl, h2, r2⟩ := trodAll_cons r1
  obtain ⟨rfl, rfl, rfl⟩ := trodAll_nil r2
  obtain rfl : args = #[v0, v1, v2] := by cases args; simp_all
  obtain ⟨rfl, rfl⟩ := trodVars_none hV
  have hfit := Fits.of_all hsz
  have k0 := h0
  have lt0 : ∀ x ∈ p0, x.block < W.heap.size := by obtain ⟨m, hm⟩ := k0; exact DataW.trod_lt m _ _ _ hm
  obtain ⟨fu0, hf0⟩ := h0
  obtain ⟨y0, hK0, hy0⟩ := ((Opn.map (opn_struct Try.underlying24 (by kernel_rfl) (OpnF.cons (opn_string Try.underlying9 (by kernel_rfl)) 0 (OpnF.one (opn_slice (B := 8) Try.underlying22 (by kernel_rfl) (by kernel_rfl) (by intro h_; cases h_) (Opn.map (opn_struct Try.underlying26 (by kernel_rfl) (OpnF.cons (opn_int Try.underlying21 (by kernel_rfl)) 0 (OpnF.one (opn_int Try.underlying21 (by kernel_rfl)) 1))) (fun z_ : radomeref39_Spot => (z_.f_X, z_.f_Y)) (fun y_ => (⟨y_.1, y_.2⟩ : radomeref39_Spot)) (fun _ => rfl))) 1))) (fun z_ : radomeref39_Zone => (z_.f_Name, z_.f_Corners)) (fun y_ => (⟨y_.1, y_.2⟩ : radomeref39_Zone)) (fun _ => rfl))).op hf0 (weights_each (j := 0) (t := 24) rfl rfl hfit)
  clear hf0
  obtain ⟨cs0, ev0, hsz0⟩ : ∃ cs, v0 = .agg cs ∧ cs.size = Try.prog.cellsOf 24 := by have h_ := (hval 0 24 v0 rfl rfl); simp only [Value.okWide, Try.underlying24] at h_; obtain ⟨cs, h1, h2, _⟩ := h_; exact ⟨cs, h1, h2⟩
  subst ev0
  obtain ⟨w0_0, ecs0, hr0_0⟩ := k_radomeref39_Zone_out hK0
  have ecs0 : cs0.toList = _ := ecs0
  obtain rfl := Array.ext' (ys := ⟨_⟩) ecs0
  have k1 := h1
  have lt1 : ∀ x ∈ p1, x.block < W.heap.size := by obtain ⟨m, hm⟩ := k1; exact DataW.trod_lt m _ _ _ hm
  obtain ⟨fu1, hf1⟩ := h1
  obtain ⟨y1, hK1, hy1⟩ := ((Opn.map (opn_struct Try.underlying26 (by kernel_rfl) (OpnF.cons (opn_int Try.underlying21 (by kernel_rfl)) 0 (OpnF.one (opn_int Try.underlying21 (by kernel_rfl)) 1))) (fun z_ : radomeref39_Spot => (z_.f_X, z_.f_Y)) (fun y_ => (⟨y_.1, y_.2⟩ : radomeref39_Spot)) (fun _ => rfl))).op hf1 (weights_each (j := 1) (t := 26) rfl rfl hfit)
  clear hf1
  obtain ⟨cs1, ev1, hsz1⟩ : ∃ cs, v1 = .agg cs ∧ cs.size = Try.prog.cellsOf 26 := by have h_ := (hval 1 26 v1 rfl rfl); simp only [Value.okWide, Try.underlying26] at h_; obtain ⟨cs, h1, h2, _⟩ := h_; exact ⟨cs, h1, h2⟩
  subst ev1
  have ecs1 := k_radomeref39_Spot_out hK1
  have ecs1 : cs1.toList = _ := ecs1
  obtain rfl := Array.ext' (ys := ⟨_⟩) ecs1
  obtain ⟨y2, rfl, rfl, rfl, w2⟩ := open_int Try.underlying3 (hval 2 3 v2 rfl rfl) h2
  clear hA0 hval0 hsz0 hsz hfit
  obtain ⟨k, hk⟩ := Pure.ZoneSame y0 y1 y2 hy0 hy1 w2
  refine (law_end (radomelaw39_ZoneSame.calls k hk hr0_0)).mono fun e W' ⟨he, bel⟩ => ?_
  subst he
  exact ⟨_, rfl, _, _, _, [], _, [], hW', trodAll_mk1 (shut_bool Try.underlying4 _), (trodAll_cons_mk (Below.trod laidOut (by kernel_rfl) (of_decide_eq_true (by kernel_rfl)) k0 bel lt0) (trodAll_cons_mk (Below.trod laidOut (by kernel_rfl) (of_decide_eq_true (by kernel_rfl)) k1 bel lt1) (trodAll_cons_mk (shut_int Try.underlying3 w2) trodAll_mk0))), rfl, bel.frame _, fun h => by cases h⟩
theorem over : Rows.zoneSameRow.holds Try.pinned (OpenSpec.ofChange Rows.zoneSameSpec) :=
  OpenClaim.holds_of_wide 3 Try.f3 rfl rfl rfl rfl rfl rfl rfl ⟨rfl, rfl, rfl, rfl, rfl⟩ rfl rfl rfl rfl rfl (by kernel_rfl) Try.func3 (by kernel_rfl)
    (of_decide_eq_true (by kernel_rfl)) (by unfold Func.isWrapper; first | (rw [if_pos (by decide +kernel)]; kernel_rfl) | (rw [if_neg (by decide +kernel)]; exact ⟨rfl, rfl⟩))
    (fun os started H enc _ => lifted os started H enc)
theorem proved : Rows.ZoneSameSaid := over
#print axioms proved
end Go.Proofs.Ytoijknggnlbopaa.zoneSame
namespace Go.Proofs.Ytoijknggnlbopaa
/-- The row, under a short name, for the claim. -/
theorem zoneSame_holds : Rows.ZoneSameSaid := zoneSame.proved
end Go.Proofs.Ytoijknggnlbopaa

/- The law ReportBack, as its given statement has it: for every input the call returns true, and each argument reads behind it as before. Out of the pure statement and the walk of the code. -/
import Derived.Test.YtlokgnjlnefbbaaRows
import Derived.Test.YtlokgnjlnefbbaaGRBk13
import Derived.Test.YtlokgnjlnefbbaaPureReportBack
import Derived.WalkKit
import Derived.ProofKit
import Derived.OpenShut
import Derived.ShutString
import Derived.ChangeOld
import Derived.Below
import Derived.SizedLaws
import Derived.Carry
import Derived.ChangeSame
import Derived.ChangeVars
import Derived.JoinedOf
import Derived.RowKit
import Derived.RowKitTokens
import Derived.LaidLaws
import Derived.LaidHandle
import Derived.Stop.Joined
import Derived.SevenTiedAt
import Derived.Handed
namespace Go.Proofs.Ytlokgnjlnefbbaa.reportBack
open Go.ChangeShapes Go.WideShapes Go.ChangeAt Go.RowKit
open Go.ChangeMaps (open_string shut_string)
open Go.Proofs.YtlokgnjlnefbbaaK
open Go.Proofs.Ytlokgnjlnefbbaa.GRB
set_option linter.unusedVariables false
set_option linter.unusedSimpArgs false
theorem own : ownKnob Try.prog.godebug = none := by kernel_rfl
theorem laidOut : laidOutB Try.prog = true := by kernel_rfl
set_option maxRecDepth 100000 in
theorem lifted (os : Os) (started : os.Started) (H : Type) (enc : TypeId × Value → H) :
    ReturnsInHanded {} Try.checked os 3 .any (Rows.reportBackSpec.pre6 enc Try.prog Try.f3 Rows.reportBackRow.domain false) (Rows.reportBackSpec.post enc Try.prog Try.f3 false true false false) := by
  refine returnsInHanded_of_change_sized (C := Try.checked) own started (by kernel_rfl) Try.func3
    (ChangeSpec.witness6 (enc := enc) (C := Try.checked) false ⟨#[], #[.int .u16 0, .slice none 0 0, .slice none 0 0], []⟩ 8 (by kernel_rfl) (by kernel_rfl) (by kernel_rfl) (by kernel_rfl)) ?_
  intro W base args ds gs before hval0 hW hcnd hsz0 _
  have hsz : (DataW.weightsEach Try.prog (Try.f3.params.toList ++ Rows.reportBackSpec.plain.varTypes Try.prog) (ds ++ gs)).all (· ≤ reachBytes) = true := hsz0
  have hval : ∀ (j : Nat) t v, Try.f3.params[j]? = some t → args[j]? = some v → Value.okWide Try.prog W .any base t v := hval0
  have hW' := hW
  obtain ⟨p, q, hA0, hV0, rfl, hfz, hnd⟩ := hW
  have hA : DataW.TrodAll enc Try.prog W 0 (fun _ => true) true Try.f3.params.toList args.toList ds p := hA0
  have hV : DataW.TrodVars enc Try.prog W (fun _ => true) [] gs q := hV0
  rw [Try.params3] at hA hval hsz
  obtain ⟨v0, vs0, d0, ds0, p0, q0, hargs, rfl, rfl, h0, r0⟩ := trodAll_cons hA
  obtain ⟨v1, vs1, d1, ds1, p1, q1, rfl, rfl, rfl, h1, r1⟩ := trodAll_cons r0
  obtain ⟨v2, vs2, d2, ds2, p2, q2, rfl, rfl, rfl, h2, r2⟩ := trodAll_cons r1
  obtain ⟨rfl, rfl, rfl⟩ := trodAll_nil r2
  obtain rfl : args = #[v0, v1, v2] := by cases args; simp_all
  obtain ⟨rfl, rfl⟩ := trodVars_none hV
  have hfit := Fits.of_all hsz
  obtain ⟨y0, rfl, rfl, rfl, w0⟩ := open_int Try.underlying22 (hval 0 22 v0 rfl rfl) h0
  have k1 := h1
  have lt1 : ∀ x ∈ p1, x.block < W.heap.size := by obtain ⟨m, hm⟩ := k1; exact DataW.trod_lt m _ _ _ hm
  obtain ⟨fu1, hf1⟩ := h1
  obtain ⟨y1, hK1, hy1⟩ := ((opn_slice (B := 32) Try.underlying23 (by kernel_rfl) (by kernel_rfl) (by intro h_; cases h_) (Opn.map (opn_struct Try.underlying45 (by kernel_rfl) (OpnF.cons (opn_int Try.underlying22 (by kernel_rfl)) 0 (OpnF.cons (opn_int Try.underlying2 (by kernel_rfl)) 1 (OpnF.cons (opn_int Try.underlying21 (by kernel_rfl)) 2 (OpnF.cons (opn_int Try.underlying21 (by kernel_rfl)) 3 (OpnF.cons (opn_int Try.underlying36 (by kernel_rfl)) 4 (OpnF.cons (opn_int Try.underlying36 (by kernel_rfl)) 5 (OpnF.one (opn_int Try.underlying5 (by kernel_rfl)) 6)))))))) (fun z_ : radomeref29_Report => (z_.f_ID, (z_.f_Time, (z_.f_X, (z_.f_Y, (z_.f_VX, (z_.f_VY, z_.f_State))))))) (fun y_ => (⟨y_.1, y_.2.1, y_.2.2.1, y_.2.2.2.1, y_.2.2.2.2.1, y_.2.2.2.2.2.1, y_.2.2.2.2.2.2⟩ : radomeref29_Report)) (fun _ => rfl)))).op hf1 (weights_each (j := 1) (t := 23) rfl rfl hfit)
  clear hf1
  obtain ⟨a1, len1, cap1, rfl⟩ := okWide_slice Try.underlying23 (hval 1 23 v1 rfl rfl)
  obtain ⟨u1, e1, hr1⟩ := hK1
  have e1 : [Value.slice a1 len1 cap1] = [u1] := e1
  obtain rfl : u1 = .slice a1 len1 cap1 := by simpa using e1.symm
  have k2 := h2
  have lt2 : ∀ x ∈ p2, x.block < W.heap.size := by obtain ⟨m, hm⟩ := k2; exact DataW.trod_lt m _ _ _ hm
  obtain ⟨fu2, hf2⟩ := h2
  obtain ⟨y2, hK2, hy2⟩ := ((opn_slice (B := 1) Try.underlying24 (by kernel_rfl) (by kernel_rfl) (by intro h_; cases h_) (opn_int Try.underlying5 (by kernel_rfl)))).op hf2 (weights_each (j := 2) (t := 24) rfl rfl hfit)
  clear hf2
  obtain ⟨a2, len2, cap2, rfl⟩ := okWide_slice Try.underlying24 (hval 2 24 v2 rfl rfl)
  obtain ⟨u2, e2, hr2⟩ := hK2
  have e2 : [Value.slice a2 len2 cap2] = [u2] := e2
  obtain rfl : u2 = .slice a2 len2 cap2 := by simpa using e2.symm
  clear hA0 hval0 hsz0 hsz hfit
  obtain ⟨k, hk⟩ := Pure.ReportBack y0 y1 y2 w0 hy1 hy2
  refine (law_end (radomelaw29_ReportBack.calls k hk hr1 hr2)).mono fun e W' ⟨he, bel⟩ => ?_
  subst he
  exact ⟨_, rfl, _, _, _, [], _, [], hW', trodAll_mk1 (shut_bool Try.underlying4 _), (trodAll_cons_mk (shut_int Try.underlying22 w0) (trodAll_cons_mk (Below.trod laidOut (by kernel_rfl) (of_decide_eq_true (by kernel_rfl)) k1 bel lt1) (trodAll_cons_mk (Below.trod laidOut (by kernel_rfl) (of_decide_eq_true (by kernel_rfl)) k2 bel lt2) trodAll_mk0))), rfl, bel.frame _, fun h => by cases h⟩
theorem over : Rows.reportBackRow.holds Try.pinned (OpenSpec.ofChange Rows.reportBackSpec) :=
  OpenClaim.holds_of_wide 3 Try.f3 rfl rfl rfl rfl rfl rfl rfl ⟨rfl, rfl, rfl, rfl, rfl⟩ rfl rfl rfl rfl rfl (by kernel_rfl) Try.func3 (by kernel_rfl)
    (of_decide_eq_true (by kernel_rfl)) (by unfold Func.isWrapper; first | (rw [if_pos (by decide +kernel)]; kernel_rfl) | (rw [if_neg (by decide +kernel)]; exact ⟨rfl, rfl⟩))
    (fun os started H enc _ => lifted os started H enc)
theorem proved : Rows.ReportBackSaid := over
#print axioms proved
end Go.Proofs.Ytlokgnjlnefbbaa.reportBack
namespace Go.Proofs.Ytlokgnjlnefbbaa
/-- The row, under a short name, for the claim. -/
theorem reportBack_holds : Rows.ReportBackSaid := reportBack.proved
end Go.Proofs.Ytlokgnjlnefbbaa

/- The law SpanSteps, as its given statement has it: for every input the call returns true, and each argument reads behind it as before. Out of the pure statement and the walk of the code. -/
import Derived.Test.YtkccpkccdbfomaaGreatDoorRows
import Derived.Test.YtkccpkccdbfomaaGreatDoorCards
import Derived.Test.YtkccpkccdbfomaaGreatDoorTie
import Derived.Test.YtkccpkccdbfomaaGreatDoorGSSk15
import Derived.Test.YtkccpkccdbfomaaGreatDoorPureSpanSteps
import Derived.WalkKit
import Derived.ProofKit
import Derived.OpenShut
import Derived.ShutString
import Derived.ChangeOld
import Derived.Below
import Derived.SizedLaws
import Derived.Carry
import Derived.ChangeSame
import Derived.ChangeVars
import Derived.JoinedOf
import Derived.RowKit
import Derived.RowKitTokens
import Derived.LaidLaws
import Derived.LaidHandle
import Derived.Stop.Joined
import Derived.SevenTiedAt
import Derived.Handed
namespace Go.Proofs.YtkccpkccdbfomaaGreatDoor.spanSteps
open Go.ChangeShapes Go.WideShapes Go.ChangeAt Go.RowKit
open Go.ChangeMaps (open_string shut_string)
open Go.Proofs.YtkccpkccdbfomaaGreatDoorK
open Go.Proofs.YtkccpkccdbfomaaGreatDoor.GSS
set_option linter.unusedVariables false
set_option linter.unusedSimpArgs false
theorem own : ownKnob Tryz.prog.godebug = none := by kernel_rfl
theorem laidOut : laidOutB Tryz.prog = true := by kernel_rfl
theorem et : Tryz.prog.globalNamed "errors.errorType" = some 0 := by kernel_rfl
theorem rt : (Tryz.prog.cutTypes.find? (·.1 == "internal/reflectlite.rtype")).map (·.2) = some 193 := by kernel_rfl
theorem oneRow : ((List.range 262).filter fun t => Tryz.prog.rowNamed t [101, 114, 114, 111, 114]) = [30] := by kernel_rfl
theorem tsize : Tryz.prog.types.size = 262 := by kernel_rfl
theorem M7 {W : World} (h : laidMetH Tryz.prog Rows.spanStepsRow.laid W) : GG W := by
  have h' : laidMet Tryz.prog [] W ∧ handlesMet Tryz.prog Rows.spanStepsRow.laid W := h
  obtain ⟨name, u, ty, e1, e2, e3, e4, e5⟩ := h'.2 _ (List.mem_singleton.2 rfl)
  have en : name = [101, 114, 114, 111, 114] := (Option.some.inj e1).symm
  subst en
  obtain rfl := Option.some.inj (rt.symm.trans e2)
  have hm : ty ∈ (List.range 262).filter fun t => Tryz.prog.rowNamed t [101, 114, 114, 111, 114] := List.mem_filter.2 ⟨List.mem_range.2 (by rw [← tsize]; exact e3), e4⟩
  rw [oneRow] at hm
  obtain rfl := List.mem_singleton.1 hm
  have hh : typeHandle Tryz.prog 30 = .pointer (some ⟨1, 30, none⟩) := by kernel_rfl
  rw [hh] at e5
  show W.cell? _ = _
  simpa using World.var?_cell et e5 0
noncomputable def laidWorld (os : Os) : World :=
  let w0 := World.holding Tryz.prog os ⟨#[], #[], []⟩
  { w0 with heap := w0.heap.modify 0 fun
      | .cells _ t frozen => .cells #[.iface 193 (.agg #[.pointer (some ⟨1, 30, none⟩)])] t frozen
      | o => o }
theorem Ny (os : Os) (args : Array Value) : laidMetH Tryz.prog Rows.spanStepsRow.laid ((laidWorld os).forCall (fun _ _ => 0) ⟨#[], args, []⟩).memory :=
  laidMetH_of_parts (laidMet_nil _ _) (by kernel_rfl)
set_option maxRecDepth 100000 in
theorem lifted (os : Os) (started : os.Started) (H : Type) (enc : TypeId × Value → H) :
    ReturnsInHanded {} Tryz.checked os 5 .any (fun w args => (Rows.spanStepsSpec.pre enc Tryz.prog Tryz.f5 Rows.spanStepsRow.domain false w args ∧ laidMetH Tryz.prog Rows.spanStepsRow.laid w) ∧ sizedMet enc Tryz.prog Tryz.f5 (OpenSpec.ofChange Rows.spanStepsSpec) false w args)
      (Rows.spanStepsSpec.post enc Tryz.prog Tryz.f5 false true false false) := by
  refine returnsInHanded_of_change_and (C := Tryz.checked) (X := fun w _ => laidMetH Tryz.prog Rows.spanStepsRow.laid w) (fun _ _ _ hh h => h.of_heap hh) own started (by kernel_rfl) Tryz.func5
    (ChangeSpec.witness_at (enc := enc) (C := Tryz.checked) (os := os) (X := fun w _ => laidMetH Tryz.prog Rows.spanStepsRow.laid w) false (laidWorld os) #[.agg #[.slice none 0 0, .slice none 0 0, .slice none 0 0, .slice none 0 0, .bool false, .bool false], .agg #[.slice none 0 0, .slice none 0 0, .slice none 0 0, .slice none 0 0, .bool false, .bool false], .bool false] 8 rfl (by kernel_rfl) (by kernel_rfl) (by kernel_rfl) (by kernel_rfl) (by kernel_rfl) (Ny os _)) ?_
  intro W base args ds gs before hval0 hW hcnd hsz0 hL _
  have hGG := M7 hL
  have hsz : (DataW.weightsEach Tryz.prog (Tryz.f5.params.toList ++ Rows.spanStepsSpec.plain.varTypes Tryz.prog) (ds ++ gs)).all (· ≤ reachBytes) = true := hsz0
  have hval : ∀ (j : Nat) t v, Tryz.f5.params[j]? = some t → args[j]? = some v → Value.okWide Tryz.prog W .any base t v := hval0
  have hW' := hW
  obtain ⟨p, q, hA0, hV0, rfl, hfz, hnd⟩ := hW
  have hA : DataW.TrodAll enc Tryz.prog W 0 (fun _ => true) true Tryz.f5.params.toList args.toList ds p := hA0
  have hV : DataW.TrodVars enc Tryz.prog W (fun _ => true) [] gs q := hV0
  rw [Tryz.params5] at hA hval hsz
  obtain ⟨v0, vs0, d0, ds0, p0, q0, hargs, rfl, rfl, h0, r0⟩ := trodAll_cons hA
  obtain ⟨v1, vs1, d1, ds1, p1, q1, rfl, rfl, rfl, h1, r1⟩ := trodAll_cons r0
  obtain ⟨v2, vs2, d2, ds2, p2, q2, rfl, rfl, rfl, h2, r2⟩ := trodAll_cons r1
  obtain ⟨rfl, rfl, rfl⟩ := trodAll_nil r2
  obtain rfl : args = #[v0, v1, v2] := by cases args; simp_all
  obtain ⟨rfl, rfl⟩ := trodVars_none hV
  have hfit := Fits.of_all hsz
  have k0 := h0
  have lt0 : ∀ x ∈ p0, x.block < W.heap.size := by obtain ⟨m, hm⟩ := k0; exact DataW.trod_lt m _ _ _ hm
  obtain ⟨fu0, hf0⟩ := h0
  obtain ⟨y0, hK0, hy0⟩ := ((Opn.map (M3 Tryz.underlying56 (by kernel_rfl) (OpnF.cons (Opn.map (JY Tryz.underlying53 (by kernel_rfl) (OpnF.cons (ZT (B := 1) Tryz.underlying52 (by kernel_rfl) (by kernel_rfl) (by intro h_; cases h_) (Jq Tryz.underlying5 (by kernel_rfl))) 0 (OpnF.cons (ZT (B := 1) Tryz.underlying52 (by kernel_rfl) (by kernel_rfl) (by intro h_; cases h_) (Jq Tryz.underlying5 (by kernel_rfl))) 1 (OpnF.cons (ZT (B := 1) Tryz.underlying52 (by kernel_rfl) (by kernel_rfl) (by intro h_; cases h_) (Jq Tryz.underlying5 (by kernel_rfl))) 2 (OpnF.one (ZT (B := 1) Tryz.underlying52 (by kernel_rfl) (by kernel_rfl) (by intro h_; cases h_) (Jq Tryz.underlying5 (by kernel_rfl))) 3))))) (fun z_ : T53 => (z_.e0, (z_.e1, (z_.e2, z_.e3)))) (fun y_ => (⟨y_.1, y_.2.1, y_.2.2.1, y_.2.2.2⟩ : T53)) (fun _ => rfl)) 0 (OpnF.one (Opn.map (JY Tryz.underlying54 (by kernel_rfl) (OpnF.cons (Gu Tryz.underlying4 (by kernel_rfl)) 0 (OpnF.one (Gu Tryz.underlying4 (by kernel_rfl)) 1))) (fun z_ : T54 => (z_.e0, z_.e1)) (fun y_ => (⟨y_.1, y_.2⟩ : T54)) (fun _ => rfl)) 4))) (fun z_ : Yf => (z_.f_L, z_.f_Neg)) (fun y_ => (⟨y_.1, y_.2⟩ : Yf)) (fun _ => rfl))).op hf0 (JQ (j := 0) (t := 56) rfl rfl hfit)
  clear hf0
  obtain ⟨cs0, ev0, hsz0⟩ : ∃ cs, v0 = .agg cs ∧ cs.size = Tryz.prog.cellsOf 56 := by have h_ := (hval 0 56 v0 rfl rfl); simp only [Value.okWide, Tryz.underlying56] at h_; obtain ⟨cs, h1, h2, _⟩ := h_; exact ⟨cs, h1, h2⟩
  subst ev0
  obtain ⟨w0_0, w0_1, w0_2, w0_3, ecs0, hr0_0, hr0_1, hr0_2, hr0_3⟩ := Jj hK0
  have ecs0 : cs0.toList = _ := ecs0
  obtain rfl := Array.ext' (ys := ⟨_⟩) ecs0
  have k1 := h1
  have lt1 : ∀ x ∈ p1, x.block < W.heap.size := by obtain ⟨m, hm⟩ := k1; exact DataW.trod_lt m _ _ _ hm
  obtain ⟨fu1, hf1⟩ := h1
  obtain ⟨y1, hK1, hy1⟩ := ((Opn.map (M3 Tryz.underlying56 (by kernel_rfl) (OpnF.cons (Opn.map (JY Tryz.underlying53 (by kernel_rfl) (OpnF.cons (ZT (B := 1) Tryz.underlying52 (by kernel_rfl) (by kernel_rfl) (by intro h_; cases h_) (Jq Tryz.underlying5 (by kernel_rfl))) 0 (OpnF.cons (ZT (B := 1) Tryz.underlying52 (by kernel_rfl) (by kernel_rfl) (by intro h_; cases h_) (Jq Tryz.underlying5 (by kernel_rfl))) 1 (OpnF.cons (ZT (B := 1) Tryz.underlying52 (by kernel_rfl) (by kernel_rfl) (by intro h_; cases h_) (Jq Tryz.underlying5 (by kernel_rfl))) 2 (OpnF.one (ZT (B := 1) Tryz.underlying52 (by kernel_rfl) (by kernel_rfl) (by intro h_; cases h_) (Jq Tryz.underlying5 (by kernel_rfl))) 3))))) (fun z_ : T53 => (z_.e0, (z_.e1, (z_.e2, z_.e3)))) (fun y_ => (⟨y_.1, y_.2.1, y_.2.2.1, y_.2.2.2⟩ : T53)) (fun _ => rfl)) 0 (OpnF.one (Opn.map (JY Tryz.underlying54 (by kernel_rfl) (OpnF.cons (Gu Tryz.underlying4 (by kernel_rfl)) 0 (OpnF.one (Gu Tryz.underlying4 (by kernel_rfl)) 1))) (fun z_ : T54 => (z_.e0, z_.e1)) (fun y_ => (⟨y_.1, y_.2⟩ : T54)) (fun _ => rfl)) 4))) (fun z_ : Yf => (z_.f_L, z_.f_Neg)) (fun y_ => (⟨y_.1, y_.2⟩ : Yf)) (fun _ => rfl))).op hf1 (JQ (j := 1) (t := 56) rfl rfl hfit)
  clear hf1
  obtain ⟨cs1, ev1, hsz1⟩ : ∃ cs, v1 = .agg cs ∧ cs.size = Tryz.prog.cellsOf 56 := by have h_ := (hval 1 56 v1 rfl rfl); simp only [Value.okWide, Tryz.underlying56] at h_; obtain ⟨cs, h1, h2, _⟩ := h_; exact ⟨cs, h1, h2⟩
  subst ev1
  obtain ⟨w1_0, w1_1, w1_2, w1_3, ecs1, hr1_0, hr1_1, hr1_2, hr1_3⟩ := Jj hK1
  have ecs1 : cs1.toList = _ := ecs1
  obtain rfl := Array.ext' (ys := ⟨_⟩) ecs1
  obtain ⟨y2, rfl, rfl, rfl⟩ := open_bool Tryz.underlying4 (hval 2 4 v2 rfl rfl) h2
  have hG : GH (snap W) := W3 hGG
  clear hA0 hval0 hsz0 hsz hfit
  obtain ⟨k, hk⟩ := Pure.SpanSteps y0 y1 y2 hy0 hy1
  refine (Wc (radomelaw34_SpanSteps.calls k hG hk hr0_0 hr0_1 hr0_2 hr0_3 hr1_0 hr1_1 hr1_2 hr1_3)).mono fun e W' ⟨he, bel⟩ => ?_
  subst he
  exact ⟨_, rfl, _, _, _, [], _, [], hW', trodAll_mk1 (shut_bool Tryz.underlying4 _), (trodAll_cons_mk (Below.trod laidOut (by kernel_rfl) (of_decide_eq_true (by kernel_rfl)) k0 bel lt0) (trodAll_cons_mk (Below.trod laidOut (by kernel_rfl) (of_decide_eq_true (by kernel_rfl)) k1 bel lt1) (trodAll_cons_mk (shut_bool Tryz.underlying4 _) trodAll_mk0))), rfl, bel.frame _, fun h => by cases h⟩
theorem over : Rows.spanStepsRow.holds Tryz.pinned (OpenSpec.ofChange Rows.spanStepsSpec) :=
  OpenClaim.holds_of_wide 5 Tryz.f5 rfl rfl rfl rfl rfl rfl rfl ⟨rfl, rfl, rfl, rfl, rfl⟩ rfl rfl rfl rfl rfl (by kernel_rfl) Tryz.func5 (by kernel_rfl)
    (of_decide_eq_true (by kernel_rfl)) (by unfold Func.isWrapper; first | (rw [if_pos (by decide +kernel)]; kernel_rfl) | (rw [if_neg (by decide +kernel)]; exact ⟨rfl, rfl⟩))
    (fun os started H enc _ => lifted os started H enc)
theorem proved : Rows.SpanStepsCardSaid :=
  Claim7.holds_tied_plain_at .later [] [.handle] true (true, "078f43bdbc96207b6589a487a5ab76fb1f62de424bc5d4632a14d20cc660a95f") true
    over (fun _ h => by cases h) (by kernel_rfl) (fun _ h => by cases h) spanSteps_row_tie rfl ⟨rfl, rfl⟩ (by kernel_rfl) rfl
    (fun f fn hf hfn => by
      obtain rfl : f = 5 := Option.some.inj ((show Tryz.prog.funcNamed "radome/radomelaw34.SpanSteps" = some 5 by kernel_rfl).symm.trans hf) |>.symm
      obtain rfl : fn = Tryz.f5 := (Option.some.inj (Tryz.func5.symm.trans hfn)).symm
      exact ⟨by kernel_rfl, fun j t ht => by
        rw [Tryz.params5] at ht
        have hm : t ∈ [56, 56, 4] := by exact List.mem_of_getElem? (l := [56, 56, 4]) (by simpa using ht)
        have hall : ∀ t ∈ [56, 56, 4], Tryz.prog.wantsStandIn t = false := by
          intro t ht
          simp only [List.mem_cons, List.mem_nil_iff, or_false] at ht
          rcases ht with rfl | rfl | rfl <;> kernel_rfl
        exact hall t hm⟩)
    (by kernel_rfl)
#print axioms proved
end Go.Proofs.YtkccpkccdbfomaaGreatDoor.spanSteps
namespace Go.Proofs.YtkccpkccdbfomaaGreatDoor
/-- The row, under a short name, for the claim. -/
theorem spanSteps_holds : Rows.SpanStepsCardSaid := spanSteps.proved
end Go.Proofs.YtkccpkccdbfomaaGreatDoor

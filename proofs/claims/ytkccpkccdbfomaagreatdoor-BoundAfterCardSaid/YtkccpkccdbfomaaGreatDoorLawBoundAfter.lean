/- The law BoundAfter, as its given statement has it: for every input the call returns true, and each argument reads behind it as before. Out of the pure statement and the walk of the code. -/
import Derived.Test.YtkccpkccdbfomaaGreatDoorRows
import Derived.Test.YtkccpkccdbfomaaGreatDoorCards
import Derived.Test.YtkccpkccdbfomaaGreatDoorTie
import Derived.Test.YtkccpkccdbfomaaGreatDoorGBAk20
import Derived.Test.YtkccpkccdbfomaaGreatDoorPureBoundAfter
import Derived.WalkKit
import Derived.ProofKit
import Derived.OpenShut
import Derived.ShutString
import Derived.ChangeOld
import Derived.Below
import Derived.SizedLaws
import Derived.Carry
import Derived.ChangeSame
import Derived.ChangeVars
import Derived.JoinedOf
import Derived.RowKit
import Derived.RowKitTokens
import Derived.LaidLaws
import Derived.LaidHandle
import Derived.Stop.Joined
import Derived.SevenTiedAt
import Derived.Handed
namespace Go.Proofs.YtkccpkccdbfomaaGreatDoor.boundAfter
open Go.ChangeShapes Go.WideShapes Go.ChangeAt Go.RowKit
open Go.ChangeMaps (open_string shut_string)
open Go.Proofs.YtkccpkccdbfomaaGreatDoorK
open Go.Proofs.YtkccpkccdbfomaaGreatDoor.GBA
set_option linter.unusedVariables false
set_option linter.unusedSimpArgs false
theorem own : ownKnob Tryz.prog.godebug = none := by kernel_rfl
theorem laidOut : laidOutB Tryz.prog = true := by kernel_rfl
theorem et : Tryz.prog.globalNamed "errors.errorType" = some 0 := by kernel_rfl
theorem rt : (Tryz.prog.cutTypes.find? (·.1 == "internal/reflectlite.rtype")).map (·.2) = some 193 := by kernel_rfl
theorem oneRow : ((List.range 262).filter fun t => Tryz.prog.rowNamed t [101, 114, 114, 111, 114]) = [30] := by kernel_rfl
theorem tsize : Tryz.prog.types.size = 262 := by kernel_rfl
theorem Mr {W : World} (h : laidMetH Tryz.prog Rows.boundAfterRow.laid W) : GG W := by
  have h' : laidMet Tryz.prog [] W ∧ handlesMet Tryz.prog Rows.boundAfterRow.laid W := h
  obtain ⟨name, u, ty, e1, e2, e3, e4, e5⟩ := h'.2 _ (List.mem_singleton.2 rfl)
  have en : name = [101, 114, 114, 111, 114] := (Option.some.inj e1).symm
  subst en
  obtain rfl := Option.some.inj (rt.symm.trans e2)
  have hm : ty ∈ (List.range 262).filter fun t => Tryz.prog.rowNamed t [101, 114, 114, 111, 114] := List.mem_filter.2 ⟨List.mem_range.2 (by rw [← tsize]; exact e3), e4⟩
  rw [oneRow] at hm
  obtain rfl := List.mem_singleton.1 hm
  have hh : typeHandle Tryz.prog 30 = .pointer (some ⟨1, 30, none⟩) := by kernel_rfl
  rw [hh] at e5
  show W.cell? _ = _
  simpa using World.var?_cell et e5 0
noncomputable def laidWorld (os : Os) : World :=
  let w0 := World.holding Tryz.prog os ⟨#[], #[], []⟩
  { w0 with heap := w0.heap.modify 0 fun
      | .cells _ t frozen => .cells #[.iface 193 (.agg #[.pointer (some ⟨1, 30, none⟩)])] t frozen
      | o => o }
theorem MU (os : Os) (args : Array Value) : laidMetH Tryz.prog Rows.boundAfterRow.laid ((laidWorld os).forCall (fun _ _ => 0) ⟨#[], args, []⟩).memory :=
  laidMetH_of_parts (laidMet_nil _ _) (by kernel_rfl)
set_option maxRecDepth 100000 in
theorem lifted (os : Os) (started : os.Started) (H : Type) (enc : TypeId × Value → H) :
    ReturnsInHanded {} Tryz.checked os 8 .any (fun w args => (Rows.boundAfterSpec.pre enc Tryz.prog Tryz.f8 Rows.boundAfterRow.domain false w args ∧ laidMetH Tryz.prog Rows.boundAfterRow.laid w) ∧ sizedMet enc Tryz.prog Tryz.f8 (OpenSpec.ofChange Rows.boundAfterSpec) false w args)
      (Rows.boundAfterSpec.post enc Tryz.prog Tryz.f8 false true false false) := by
  refine returnsInHanded_of_change_and (C := Tryz.checked) (X := fun w _ => laidMetH Tryz.prog Rows.boundAfterRow.laid w) (fun _ _ _ hh h => h.of_heap hh) own started (by kernel_rfl) Tryz.func8
    (ChangeSpec.witness_at (enc := enc) (C := Tryz.checked) (os := os) (X := fun w _ => laidMetH Tryz.prog Rows.boundAfterRow.laid w) false (laidWorld os) #[.agg #[.int .i64 0, .int .i64 0], .int .i64 0, .agg #[.slice none 0 0, .slice none 0 0]] 8 rfl (by kernel_rfl) (by kernel_rfl) (by kernel_rfl) (by kernel_rfl) (by kernel_rfl) (MU os _)) ?_
  intro W base args ds gs before hval0 hW hcnd hsz0 hL _
  have hGG := Mr hL
  have hsz : (DataW.weightsEach Tryz.prog (Tryz.f8.params.toList ++ Rows.boundAfterSpec.plain.varTypes Tryz.prog) (ds ++ gs)).all (· ≤ reachBytes) = true := hsz0
  have hval : ∀ (j : Nat) t v, Tryz.f8.params[j]? = some t → args[j]? = some v → Value.okWide Tryz.prog W .any base t v := hval0
  have hW' := hW
  obtain ⟨p, q, hA0, hV0, rfl, hfz, hnd⟩ := hW
  have hA : DataW.TrodAll enc Tryz.prog W 0 (fun _ => true) true Tryz.f8.params.toList args.toList ds p := hA0
  have hV : DataW.TrodVars enc Tryz.prog W (fun _ => true) [] gs q := hV0
  rw [Tryz.params8] at hA hval hsz
  obtain ⟨v0, vs0, d0, ds0, p0, q0, hargs, rfl, rfl, h0, r0⟩ := trodAll_cons hA
  obtain ⟨v1, vs1, d1, ds1, p1, q1, rfl, rfl, rfl, h1, r1⟩ := trodAll_cons r0
  obtain ⟨v2, vs2, d2, ds2, p2, q2, rfl, rfl, rfl, h2, r2⟩ := trodAll_cons r1
  obtain ⟨rfl, rfl, rfl⟩ := trodAll_nil r2
  obtain rfl : args = #[v0, v1, v2] := by cases args; simp_all
  obtain ⟨rfl, rfl⟩ := trodVars_none hV
  have hfit := Fits.of_all hsz
  have k0 := h0
  have lt0 : ∀ x ∈ p0, x.block < W.heap.size := by obtain ⟨m, hm⟩ := k0; exact DataW.trod_lt m _ _ _ hm
  obtain ⟨fu0, hf0⟩ := h0
  obtain ⟨y0, hK0, hy0⟩ := ((Opn.map (MR Tryz.underlying98 (by kernel_rfl) (OpnF.cons (Gw Tryz.underlying2 (by kernel_rfl)) 0 (OpnF.one (Gw Tryz.underlying2 (by kernel_rfl)) 1))) (fun z_ : T98 => (z_.e0, z_.e1)) (fun y_ => (⟨y_.1, y_.2⟩ : T98)) (fun _ => rfl))).op hf0 (J3 (j := 0) (t := 98) rfl rfl hfit)
  clear hf0
  obtain ⟨cs0, ev0, hsz0⟩ : ∃ cs, v0 = .agg cs ∧ cs.size = Tryz.prog.cellsOf 98 := by have h_ := (hval 0 98 v0 rfl rfl); simp only [Value.okWide, Tryz.underlying98] at h_; obtain ⟨cs, h1, h2, _⟩ := h_; exact ⟨cs, h1, h2⟩
  subst ev0
  have ecs0 := UH hK0
  have ecs0 : cs0.toList = _ := ecs0
  obtain rfl := Array.ext' (ys := ⟨_⟩) ecs0
  obtain ⟨y1, rfl, rfl, rfl, w1⟩ := open_int Tryz.underlying3 (hval 1 3 v1 rfl rfl) h1
  have k2 := h2
  have lt2 : ∀ x ∈ p2, x.block < W.heap.size := by obtain ⟨m, hm⟩ := k2; exact DataW.trod_lt m _ _ _ hm
  obtain ⟨fu2, hf2⟩ := h2
  obtain ⟨y2, hK2, hy2⟩ := ((Opn.map (MR Tryz.underlying99 (by kernel_rfl) (OpnF.cons (MG (B := 8) Tryz.underlying72 (by kernel_rfl) (by kernel_rfl) (by intro h_; cases h_) (Gw Tryz.underlying2 (by kernel_rfl))) 0 (OpnF.one (MG (B := 8) Tryz.underlying72 (by kernel_rfl) (by kernel_rfl) (by intro h_; cases h_) (Gw Tryz.underlying2 (by kernel_rfl))) 1))) (fun z_ : T99 => (z_.e0, z_.e1)) (fun y_ => (⟨y_.1, y_.2⟩ : T99)) (fun _ => rfl))).op hf2 (J3 (j := 2) (t := 99) rfl rfl hfit)
  clear hf2
  obtain ⟨cs2, ev2, hsz2⟩ : ∃ cs, v2 = .agg cs ∧ cs.size = Tryz.prog.cellsOf 99 := by have h_ := (hval 2 99 v2 rfl rfl); simp only [Value.okWide, Tryz.underlying99] at h_; obtain ⟨cs, h1, h2, _⟩ := h_; exact ⟨cs, h1, h2⟩
  subst ev2
  obtain ⟨w2_0, w2_1, ecs2, hr2_0, hr2_1⟩ := O2 hK2
  have ecs2 : cs2.toList = _ := ecs2
  obtain rfl := Array.ext' (ys := ⟨_⟩) ecs2
  have hG : GH (snap W) := WW hGG
  clear hA0 hval0 hsz0 hsz hfit
  obtain ⟨k, hk⟩ := Pure.BoundAfter y0 y1 y2 hy0 w1 hy2
  refine (VU (radomelaw35_BoundAfter.calls k hG hk hr2_0 hr2_1)).mono fun e W' ⟨he, bel⟩ => ?_
  subst he
  exact ⟨_, rfl, _, _, _, [], _, [], hW', trodAll_mk1 (shut_bool Tryz.underlying4 _), (trodAll_cons_mk (Below.trod laidOut (by kernel_rfl) (of_decide_eq_true (by kernel_rfl)) k0 bel lt0) (trodAll_cons_mk (shut_int Tryz.underlying3 w1) (trodAll_cons_mk (Below.trod laidOut (by kernel_rfl) (of_decide_eq_true (by kernel_rfl)) k2 bel lt2) trodAll_mk0))), rfl, bel.frame _, fun h => by cases h⟩
theorem over : Rows.boundAfterRow.holds Tryz.pinned (OpenSpec.ofChange Rows.boundAfterSpec) :=
  OpenClaim.holds_of_wide 8 Tryz.f8 rfl rfl rfl rfl rfl rfl rfl ⟨rfl, rfl, rfl, rfl, rfl⟩ rfl rfl rfl rfl rfl (by kernel_rfl) Tryz.func8 (by kernel_rfl)
    (of_decide_eq_true (by kernel_rfl)) (by unfold Func.isWrapper; first | (rw [if_pos (by decide +kernel)]; kernel_rfl) | (rw [if_neg (by decide +kernel)]; exact ⟨rfl, rfl⟩))
    (fun os started H enc _ => lifted os started H enc)
theorem proved : Rows.BoundAfterCardSaid :=
  Claim7.holds_tied_plain_at .later [] [.handle] true (true, "078f43bdbc96207b6589a487a5ab76fb1f62de424bc5d4632a14d20cc660a95f") true
    over (fun _ h => by cases h) (by kernel_rfl) (fun _ h => by cases h) boundAfter_row_tie rfl ⟨rfl, rfl⟩ (by kernel_rfl) rfl
    (fun f fn hf hfn => by
      obtain rfl : f = 8 := Option.some.inj ((show Tryz.prog.funcNamed "radome/radomelaw35.BoundAfter" = some 8 by kernel_rfl).symm.trans hf) |>.symm
      obtain rfl : fn = Tryz.f8 := (Option.some.inj (Tryz.func8.symm.trans hfn)).symm
      exact ⟨by kernel_rfl, fun j t ht => by
        rw [Tryz.params8] at ht
        have hm : t ∈ [98, 3, 99] := by exact List.mem_of_getElem? (l := [98, 3, 99]) (by simpa using ht)
        have hall : ∀ t ∈ [98, 3, 99], Tryz.prog.wantsStandIn t = false := by
          intro t ht
          simp only [List.mem_cons, List.mem_nil_iff, or_false] at ht
          rcases ht with rfl | rfl | rfl <;> kernel_rfl
        exact hall t hm⟩)
    (by kernel_rfl)
#print axioms proved
end Go.Proofs.YtkccpkccdbfomaaGreatDoor.boundAfter
namespace Go.Proofs.YtkccpkccdbfomaaGreatDoor
/-- The row, under a short name, for the claim. -/
theorem boundAfter_holds : Rows.BoundAfterCardSaid := boundAfter.proved
end Go.Proofs.YtkccpkccdbfomaaGreatDoor

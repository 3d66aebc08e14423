/- The law RatioNear, as its given statement has it: for every input the call returns true, and each argument reads behind it as before. Out of the pure statement and the walk of the code. -/
import Derived.Test.YtmnhbbckndlnkaaGreatDoorRows
import Derived.Test.YtmnhbbckndlnkaaGreatDoorCards
import Derived.Test.YtmnhbbckndlnkaaGreatDoorTie
import Derived.Test.YtmnhbbckndlnkaaGreatDoorGRNk8
import Derived.Test.YtmnhbbckndlnkaaGreatDoorPureRatioNear
import Derived.WalkKit
import Derived.ProofKit
import Derived.OpenShut
import Derived.ShutString
import Derived.ChangeOld
import Derived.Below
import Derived.SizedLaws
import Derived.Carry
import Derived.ChangeSame
import Derived.ChangeVars
import Derived.JoinedOf
import Derived.RowKit
import Derived.RowKitTokens
import Derived.LaidLaws
import Derived.LaidHandle
import Derived.Stop.Joined
import Derived.SevenTiedAt
import Derived.Handed
namespace Go.Proofs.YtmnhbbckndlnkaaGreatDoor.ratioNear
open Go.ChangeShapes Go.WideShapes Go.ChangeAt Go.RowKit
open Go.ChangeMaps (open_string shut_string)
open Go.Proofs.YtmnhbbckndlnkaaGreatDoorK
open Go.Proofs.YtmnhbbckndlnkaaGreatDoor.GRN
set_option linter.unusedVariables false
set_option linter.unusedSimpArgs false
theorem own : ownKnob Tryz.prog.godebug = none := by kernel_rfl
theorem laidOut : laidOutB Tryz.prog = true := by kernel_rfl
theorem et : Tryz.prog.globalNamed "errors.errorType" = some 0 := by kernel_rfl
theorem rt : (Tryz.prog.cutTypes.find? (·.1 == "internal/reflectlite.rtype")).map (·.2) = some 143 := by kernel_rfl
theorem oneRow : ((List.range 183).filter fun t => Tryz.prog.rowNamed t [101, 114, 114, 111, 114]) = [32] := by kernel_rfl
theorem tsize : Tryz.prog.types.size = 183 := by kernel_rfl
theorem handle_of_laid {W : World} (h : laidMetH Tryz.prog Rows.ratioNearRow.laid W) : GG W := by
  have h' : laidMet Tryz.prog [] W ∧ handlesMet Tryz.prog Rows.ratioNearRow.laid W := h
  obtain ⟨name, u, ty, e1, e2, e3, e4, e5⟩ := h'.2 _ (List.mem_singleton.2 rfl)
  have en : name = [101, 114, 114, 111, 114] := (Option.some.inj e1).symm
  subst en
  obtain rfl := Option.some.inj (rt.symm.trans e2)
  have hm : ty ∈ (List.range 183).filter fun t => Tryz.prog.rowNamed t [101, 114, 114, 111, 114] := List.mem_filter.2 ⟨List.mem_range.2 (by rw [← tsize]; exact e3), e4⟩
  rw [oneRow] at hm
  obtain rfl := List.mem_singleton.1 hm
  have hh : typeHandle Tryz.prog 32 = .pointer (some ⟨1, 32, none⟩) := by kernel_rfl
  rw [hh] at e5
  show W.cell? _ = _
  simpa using World.var?_cell et e5 0
noncomputable def laidWorld (os : Os) : World :=
  let w0 := World.holding Tryz.prog os ⟨#[], #[], []⟩
  { w0 with heap := w0.heap.modify 0 fun
      | .cells _ t frozen => .cells #[.iface 143 (.agg #[.pointer (some ⟨1, 32, none⟩)])] t frozen
      | o => o }
theorem laidWorld_met (os : Os) (args : Array Value) : laidMetH Tryz.prog Rows.ratioNearRow.laid ((laidWorld os).forCall (fun _ _ => 0) ⟨#[], args, []⟩).memory :=
  laidMetH_of_parts (laidMet_nil _ _) (by kernel_rfl)
set_option maxRecDepth 100000 in
theorem lifted (os : Os) (started : os.Started) (H : Type) (enc : TypeId × Value → H) :
    ReturnsInHanded {} Tryz.checked os 3 .any (fun w args => (Rows.ratioNearSpec.pre enc Tryz.prog Tryz.f3 Rows.ratioNearRow.domain false w args ∧ laidMetH Tryz.prog Rows.ratioNearRow.laid w) ∧ sizedMet enc Tryz.prog Tryz.f3 (OpenSpec.ofChange Rows.ratioNearSpec) false w args)
      (Rows.ratioNearSpec.post enc Tryz.prog Tryz.f3 false true false false) := by
  refine returnsInHanded_of_change_and (C := Tryz.checked) (X := fun w _ => laidMetH Tryz.prog Rows.ratioNearRow.laid w) (fun _ _ _ hh h => h.of_heap hh) own started (by kernel_rfl) Tryz.func3
    (ChangeSpec.witness_at (enc := enc) (C := Tryz.checked) (os := os) (X := fun w _ => laidMetH Tryz.prog Rows.ratioNearRow.laid w) false (laidWorld os) #[.agg #[.slice none 0 0, .slice none 0 0], .bool false, .agg #[.int .i64 0, .int .i64 0]] 8 rfl (by kernel_rfl) (by kernel_rfl) (by kernel_rfl) (by kernel_rfl) (by kernel_rfl) (laidWorld_met os _)) ?_
  intro W base args ds gs before hval0 hW hcnd hsz0 hL _
  have hGG := handle_of_laid hL
  have hsz : (DataW.weightsEach Tryz.prog (Tryz.f3.params.toList ++ Rows.ratioNearSpec.plain.varTypes Tryz.prog) (ds ++ gs)).all (· ≤ reachBytes) = true := hsz0
  have hval : ∀ (j : Nat) t v, Tryz.f3.params[j]? = some t → args[j]? = some v → Value.okWide Tryz.prog W .any base t v := hval0
  have hW' := hW
  obtain ⟨p, q, hA0, hV0, rfl, hfz, hnd⟩ := hW
  have hA : DataW.TrodAll enc Tryz.prog W 0 (fun _ => true) true Tryz.f3.params.toList args.toList ds p := hA0
  have hV : DataW.TrodVars enc Tryz.prog W (fun _ => true) [] gs q := hV0
  rw [Tryz.params3] at hA hval hsz
  obtain ⟨v0, vs0, d0, ds0, p0, q0, hargs, rfl, rfl, h0, r0⟩ := trodAll_cons hA
  obtain ⟨v1, vs1, d1, ds1, p1, q1, rfl, rfl, rfl, h1, r1⟩ := trodAll_cons r0
  obtain ⟨v2, vs2, d2, ds2, p2, q2, rfl, rfl, rfl, h2, r2⟩ := trodAll_cons r1
  obtain ⟨rfl, rfl, rfl⟩ := trodAll_nil r2
  obtain rfl : args = #[v0, v1, v2] := by cases args; simp_all
  obtain ⟨rfl, rfl⟩ := trodVars_none hV
  have hfit := Fits.of_all hsz
  have k0 := h0
  have lt0 : ∀ x ∈ p0, x.block < W.heap.size := by obtain ⟨m, hm⟩ := k0; exact DataW.trod_lt m _ _ _ hm
  obtain ⟨fu0, hf0⟩ := h0
  obtain ⟨y0, hK0, hy0⟩ := ((Opn.map (opn_array Tryz.underlying23 (by kernel_rfl) (OpnF.cons (opn_slice (B := 1) Tryz.underlying22 (by kernel_rfl) (by kernel_rfl) (by intro h_; cases h_) (opn_int Tryz.underlying5 (by kernel_rfl))) 0 (OpnF.one (opn_slice (B := 1) Tryz.underlying22 (by kernel_rfl) (by kernel_rfl) (by intro h_; cases h_) (opn_int Tryz.underlying5 (by kernel_rfl))) 1))) (fun z_ : T23 => (z_.e0, z_.e1)) (fun y_ => (⟨y_.1, y_.2⟩ : T23)) (fun _ => rfl))).op hf0 (weights_each (j := 0) (t := 23) rfl rfl hfit)
  clear hf0
  obtain ⟨cs0, ev0, hsz0⟩ : ∃ cs, v0 = .agg cs ∧ cs.size = Tryz.prog.cellsOf 23 := by have h_ := (hval 0 23 v0 rfl rfl); simp only [Value.okWide, Tryz.underlying23] at h_; obtain ⟨cs, h1, h2, _⟩ := h_; exact ⟨cs, h1, h2⟩
  subst ev0
  obtain ⟨w0_0, w0_1, ecs0, hr0_0, hr0_1⟩ := k_T23_out hK0
  have ecs0 : cs0.toList = _ := ecs0
  obtain rfl := Array.ext' (ys := ⟨_⟩) ecs0
  obtain ⟨y1, rfl, rfl, rfl⟩ := open_bool Tryz.underlying4 (hval 1 4 v1 rfl rfl) h1
  have k2 := h2
  have lt2 : ∀ x ∈ p2, x.block < W.heap.size := by obtain ⟨m, hm⟩ := k2; exact DataW.trod_lt m _ _ _ hm
  obtain ⟨fu2, hf2⟩ := h2
  obtain ⟨y2, hK2, hy2⟩ := ((Opn.map (opn_array Tryz.underlying24 (by kernel_rfl) (OpnF.cons (opn_int Tryz.underlying2 (by kernel_rfl)) 0 (OpnF.one (opn_int Tryz.underlying2 (by kernel_rfl)) 1))) (fun z_ : T24 => (z_.e0, z_.e1)) (fun y_ => (⟨y_.1, y_.2⟩ : T24)) (fun _ => rfl))).op hf2 (weights_each (j := 2) (t := 24) rfl rfl hfit)
  clear hf2
  obtain ⟨cs2, ev2, hsz2⟩ : ∃ cs, v2 = .agg cs ∧ cs.size = Tryz.prog.cellsOf 24 := by have h_ := (hval 2 24 v2 rfl rfl); simp only [Value.okWide, Tryz.underlying24] at h_; obtain ⟨cs, h1, h2, _⟩ := h_; exact ⟨cs, h1, h2⟩
  subst ev2
  have ecs2 := k_T24_out hK2
  have ecs2 : cs2.toList = _ := ecs2
  obtain rfl := Array.ext' (ys := ⟨_⟩) ecs2
  have hG : GH (snap W) := gh_of hGG
  clear hA0 hval0 hsz0 hsz hfit
  obtain ⟨k, hk⟩ := Pure.RatioNear y0 y1 y2 hy0 hy2
  refine (law_end (radomelaw02_RatioNear.calls k hG hk hr0_0 hr0_1)).mono fun e W' ⟨he, bel⟩ => ?_
  subst he
  exact ⟨_, rfl, _, _, _, [], _, [], hW', trodAll_mk1 (shut_bool Tryz.underlying4 _), (trodAll_cons_mk (Below.trod laidOut (by kernel_rfl) (of_decide_eq_true (by kernel_rfl)) k0 bel lt0) (trodAll_cons_mk (shut_bool Tryz.underlying4 _) (trodAll_cons_mk (Below.trod laidOut (by kernel_rfl) (of_decide_eq_true (by kernel_rfl)) k2 bel lt2) trodAll_mk0))), rfl, bel.frame _, fun h => by cases h⟩
theorem over : Rows.ratioNearRow.holds Tryz.pinned (OpenSpec.ofChange Rows.ratioNearSpec) :=
  OpenClaim.holds_of_wide 3 Tryz.f3 rfl rfl rfl rfl rfl rfl rfl ⟨rfl, rfl, rfl, rfl, rfl⟩ rfl rfl rfl rfl rfl (by kernel_rfl) Tryz.func3 (by kernel_rfl)
    (of_decide_eq_true (by kernel_rfl)) (by unfold Func.isWrapper; first | (rw [if_pos (by decide +kernel)]; kernel_rfl) | (rw [if_neg (by decide +kernel)]; exact ⟨rfl, rfl⟩))
    (fun os started H enc _ => lifted os started H enc)
theorem proved : Rows.RatioNearCardSaid :=
  Claim7.holds_tied_plain_at .later [] [.handle] true (true, "59f188c7451a30e133024887800a9a3695e9ef12ea0af74a7e99a828a30fde06") true
    over (fun _ h => by cases h) (by kernel_rfl) (fun _ h => by cases h) ratioNear_row_tie rfl ⟨rfl, rfl⟩ (by kernel_rfl) rfl
    (fun f fn hf hfn => by
      obtain rfl : f = 3 := Option.some.inj ((show Tryz.prog.funcNamed "radome/radomelaw02.RatioNear" = some 3 by kernel_rfl).symm.trans hf) |>.symm
      obtain rfl : fn = Tryz.f3 := (Option.some.inj (Tryz.func3.symm.trans hfn)).symm
      exact ⟨by kernel_rfl, fun j t ht => by
        rw [Tryz.params3] at ht
        have hm : t ∈ [23, 4, 24] := by exact List.mem_of_getElem? (l := [23, 4, 24]) (by simpa using ht)
        have hall : ∀ t ∈ [23, 4, 24], Tryz.prog.wantsStandIn t = false := by
          intro t ht
          simp only [List.mem_cons, List.mem_nil_iff, or_false] at ht
          rcases ht with rfl | rfl | rfl <;> kernel_rfl
        exact hall t hm⟩)
    (by kernel_rfl)
#print axioms proved
end Go.Proofs.YtmnhbbckndlnkaaGreatDoor.ratioNear
namespace Go.Proofs.YtmnhbbckndlnkaaGreatDoor
/-- The row, under a short name, for the claim. -/
theorem ratioNear_holds : Rows.RatioNearCardSaid := ratioNear.proved
end Go.Proofs.YtmnhbbckndlnkaaGreatDoor

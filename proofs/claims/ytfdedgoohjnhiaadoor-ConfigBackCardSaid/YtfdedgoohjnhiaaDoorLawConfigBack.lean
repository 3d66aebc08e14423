/- The law ConfigBack, as its given statement has it: for every input the call returns true, and each argument reads behind it as before. Out of the pure statement and the walk of the code. -/
import Derived.Test.YtfdedgoohjnhiaaDoorRows
import Derived.Test.YtfdedgoohjnhiaaDoorCards
import Derived.Test.YtfdedgoohjnhiaaDoorTie
import Derived.Test.YtfdedgoohjnhiaaDoorGCBk16
import Derived.Test.YtfdedgoohjnhiaaDoorPureConfigBack
import Derived.WalkKit
import Derived.ProofKit
import Derived.OpenShut
import Derived.ShutString
import Derived.ChangeOld
import Derived.Below
import Derived.SizedLaws
import Derived.Carry
import Derived.ChangeSame
import Derived.ChangeVars
import Derived.JoinedOf
import Derived.RowKit
import Derived.RowKitTokens
import Derived.LaidLaws
import Derived.LaidHandle
import Derived.Stop.Joined
import Derived.SevenTiedAt
import Derived.Handed
namespace Go.Proofs.YtfdedgoohjnhiaaDoor.configBack
open Go.ChangeShapes Go.WideShapes Go.ChangeAt Go.RowKit
open Go.ChangeMaps (open_string shut_string)
open Go.Proofs.YtfdedgoohjnhiaaDoorK
open Go.Proofs.YtfdedgoohjnhiaaDoor.GCB
set_option linter.unusedVariables false
set_option linter.unusedSimpArgs false
theorem own : ownKnob Tryd.prog.godebug = none := by kernel_rfl
theorem laidOut : laidOutB Tryd.prog = true := by kernel_rfl
theorem et : Tryd.prog.globalNamed "errors.errorType" = some 0 := by kernel_rfl
theorem rt : (Tryd.prog.cutTypes.find? (·.1 == "internal/reflectlite.rtype")).map (·.2) = some 112 := by kernel_rfl
theorem oneRow : ((List.range 158).filter fun t => Tryd.prog.rowNamed t [101, 114, 114, 111, 114]) = [45] := by kernel_rfl
theorem tsize : Tryd.prog.types.size = 158 := by kernel_rfl
theorem handle_of_laid {W : World} (h : laidMetH Tryd.prog Rows.configBackRow.laid W) : GG W := by
  have h' : laidMet Tryd.prog [] W ∧ handlesMet Tryd.prog Rows.configBackRow.laid W := h
  obtain ⟨name, u, ty, e1, e2, e3, e4, e5⟩ := h'.2 _ (List.mem_singleton.2 rfl)
  have en : name = [101, 114, 114, 111, 114] := (Option.some.inj e1).symm
  subst en
  obtain rfl := Option.some.inj (rt.symm.trans e2)
  have hm : ty ∈ (List.range 158).filter fun t => Tryd.prog.rowNamed t [101, 114, 114, 111, 114] := List.mem_filter.2 ⟨List.mem_range.2 (by rw [← tsize]; exact e3), e4⟩
  rw [oneRow] at hm
  obtain rfl := List.mem_singleton.1 hm
  have hh : typeHandle Tryd.prog 45 = .pointer (some ⟨1, 45, none⟩) := by kernel_rfl
  rw [hh] at e5
  show W.cell? _ = _
  simpa using World.var?_cell et e5 0
noncomputable def laidWorld (os : Os) : World :=
  let w0 := World.holding Tryd.prog os ⟨#[], #[], []⟩
  { w0 with heap := w0.heap.modify 0 fun
      | .cells _ t frozen => .cells #[.iface 112 (.agg #[.pointer (some ⟨1, 45, none⟩)])] t frozen
      | o => o }
theorem laidWorld_met (os : Os) (args : Array Value) : laidMetH Tryd.prog Rows.configBackRow.laid ((laidWorld os).forCall (fun _ _ => 0) ⟨#[], args, []⟩).memory :=
  laidMetH_of_parts (laidMet_nil _ _) (by kernel_rfl)
set_option maxRecDepth 100000 in
theorem lifted (os : Os) (started : os.Started) (H : Type) (enc : TypeId × Value → H) :
    ReturnsInHanded {} Tryd.checked os 5 .any (fun w args => (Rows.configBackSpec.pre enc Tryd.prog Tryd.f5 Rows.configBackRow.domain false w args ∧ laidMetH Tryd.prog Rows.configBackRow.laid w) ∧ sizedMet enc Tryd.prog Tryd.f5 (OpenSpec.ofChange Rows.configBackSpec) false w args)
      (Rows.configBackSpec.post enc Tryd.prog Tryd.f5 false true false false) := by
  refine returnsInHanded_of_change_and (C := Tryd.checked) (X := fun w _ => laidMetH Tryd.prog Rows.configBackRow.laid w) (fun _ _ _ hh h => h.of_heap hh) own started (by kernel_rfl) Tryd.func5
    (ChangeSpec.witness_at (enc := enc) (C := Tryd.checked) (os := os) (X := fun w _ => laidMetH Tryd.prog Rows.configBackRow.laid w) false (laidWorld os) #[.agg #[.int .i64 0, .int .i64 0, .slice none 0 0, .slice none 0 0, .int .i64 0, .int .i64 0, .int .i64 0, .int .i64 0, .int .i64 0, .int .i64 0, .int .i64 0, .int .i64 0, .int .i64 0, .int .i64 0, .int .i64 0, .int .i64 0, .int .i64 0, .int .u16 0], .int .i64 0, .int .i64 0] 8 rfl (by kernel_rfl) (by kernel_rfl) (by kernel_rfl) (by kernel_rfl) (by kernel_rfl) (laidWorld_met os _)) ?_
  intro W base args ds gs before hval0 hW hcnd hsz0 hL _
  have hGG := handle_of_laid hL
  have hsz : (DataW.weightsEach Tryd.prog (Tryd.f5.params.toList ++ Rows.configBackSpec.plain.varTypes Tryd.prog) (ds ++ gs)).all (· ≤ reachBytes) = true := hsz0
  have hval : ∀ (j : Nat) t v, Tryd.f5.params[j]? = some t → args[j]? = some v → Value.okWide Tryd.prog W .any base t v := hval0
  have hW' := hW
  obtain ⟨p, q, hA0, hV0, rfl, hfz, hnd⟩ := hW
  have hA : DataW.TrodAll enc Tryd.prog W 0 (fun _ => true) true Tryd.f5.params.toList args.toList ds p := hA0
  have hV : DataW.TrodVars enc Tryd.prog W (fun _ => true) [] gs q := hV0
  rw [Tryd.params5] at hA hval hsz
  obtain ⟨v0, vs0, d0, ds0, p0, q0, hargs, rfl, rfl, h0, r0⟩ := trodAll_cons hA
  obtain ⟨v1, vs1, d1, ds1, p1, q1, rfl, rfl, rfl, h1, r1⟩ := trodAll_cons r0
  obtain ⟨v2, vs2, d2, ds2, p2, q2, rfl, rfl, rfl, h2, r2⟩ := trodAll_cons r1
  obtain ⟨rfl, rfl, rfl⟩ := trodAll_nil r2
  obtain rfl : args = #[v0, v1, v2] := by cases args; simp_all
  obtain ⟨rfl, rfl⟩ := trodVars_none hV
  have hfit := Fits.of_all hsz
  have k0 := h0
  have lt0 : ∀ x ∈ p0, x.block < W.heap.size := by obtain ⟨m, hm⟩ := k0; exact DataW.trod_lt m _ _ _ hm
  obtain ⟨fu0, hf0⟩ := h0
  obtain ⟨y0, hK0, hy0⟩ := ((Opn.map (opn_struct Tryd.underlying32 (by kernel_rfl) (OpnF.cons (Opn.map (opn_struct Tryd.underlying23 (by kernel_rfl) (OpnF.cons (opn_int Tryd.underlying2 (by kernel_rfl)) 0 (OpnF.one (opn_int Tryd.underlying2 (by kernel_rfl)) 1))) (fun z_ : radomeref10_Sensor => (z_.f_Range, z_.f_Turn)) (fun y_ => (⟨y_.1, y_.2⟩ : radomeref10_Sensor)) (fun _ => rfl)) 0 (OpnF.cons (Opn.map (opn_struct Tryd.underlying27 (by kernel_rfl) (OpnF.cons (opn_slice (B := 24) Tryd.underlying24 (by kernel_rfl) (by kernel_rfl) (by intro h_; cases h_) (Opn.map (opn_struct Tryd.underlying67 (by kernel_rfl) (OpnF.cons (opn_int Tryd.underlying3 (by kernel_rfl)) 0 (OpnF.cons (opn_int Tryd.underlying2 (by kernel_rfl)) 1 (OpnF.one (opn_int Tryd.underlying2 (by kernel_rfl)) 2)))) (fun z_ : radomeref11_Model => (z_.f_Kind, (z_.f_Rate, z_.f_Noise))) (fun y_ => (⟨y_.1, y_.2.1, y_.2.2⟩ : radomeref11_Model)) (fun _ => rfl))) 0 (OpnF.cons (opn_slice (B := 24) Tryd.underlying25 (by kernel_rfl) (by kernel_rfl) (by intro h_; cases h_) (opn_slice (B := 8) Tryd.underlying34 (by kernel_rfl) (by kernel_rfl) (by intro h_; cases h_) (opn_int Tryd.underlying2 (by kernel_rfl)))) 1 (OpnF.one (opn_int Tryd.underlying2 (by kernel_rfl)) 2)))) (fun z_ : radomeref17_Conf => (z_.f_Models, (z_.f_Rows, z_.f_Floor))) (fun y_ => (⟨y_.1, y_.2.1, y_.2.2⟩ : radomeref17_Conf)) (fun _ => rfl)) 2 (OpnF.cons (Opn.map (opn_struct Tryd.underlying29 (by kernel_rfl) (OpnF.cons (opn_int Tryd.underlying3 (by kernel_rfl)) 0 (OpnF.cons (opn_int Tryd.underlying3 (by kernel_rfl)) 1 (OpnF.one (opn_int Tryd.underlying3 (by kernel_rfl)) 2)))) (fun z_ : radomeref23_Rule => (z_.f_Hits, (z_.f_Window, z_.f_Misses))) (fun y_ => (⟨y_.1, y_.2.1, y_.2.2⟩ : radomeref23_Rule)) (fun _ => rfl)) 5 (OpnF.cons (opn_int Tryd.underlying2 (by kernel_rfl)) 8 (OpnF.cons (opn_int Tryd.underlying2 (by kernel_rfl)) 9 (OpnF.cons (opn_int Tryd.underlying2 (by kernel_rfl)) 10 (OpnF.cons (opn_int Tryd.underlying2 (by kernel_rfl)) 11 (OpnF.cons (opn_int Tryd.underlying2 (by kernel_rfl)) 12 (OpnF.cons (opn_int Tryd.underlying3 (by kernel_rfl)) 13 (OpnF.cons (opn_int Tryd.underlying2 (by kernel_rfl)) 14 (OpnF.cons (opn_int Tryd.underlying2 (by kernel_rfl)) 15 (OpnF.cons (opn_int Tryd.underlying2 (by kernel_rfl)) 16 (OpnF.one (opn_int Tryd.underlying30 (by kernel_rfl)) 17)))))))))))))) (fun z_ : radomeref30_Config => (z_.f_Sensor, (z_.f_Imm, (z_.f_Rule, (z_.f_Gate, (z_.f_Miss, (z_.f_Merge, (z_.f_Fast, (z_.f_Push, (z_.f_Tracks, (z_.f_From, (z_.f_Least, (z_.f_Most, z_.f_Source))))))))))))) (fun y_ => (⟨y_.1, y_.2.1, y_.2.2.1, y_.2.2.2.1, y_.2.2.2.2.1, y_.2.2.2.2.2.1, y_.2.2.2.2.2.2.1, y_.2.2.2.2.2.2.2.1, y_.2.2.2.2.2.2.2.2.1, y_.2.2.2.2.2.2.2.2.2.1, y_.2.2.2.2.2.2.2.2.2.2.1, y_.2.2.2.2.2.2.2.2.2.2.2.1, y_.2.2.2.2.2.2.2.2.2.2.2.2⟩ : radomeref30_Config)) (fun _ => rfl))).op hf0 (weights_each (j := 0) (t := 32) rfl rfl hfit)
  clear hf0
  obtain ⟨cs0, ev0, hsz0⟩ : ∃ cs, v0 = .agg cs ∧ cs.size = Tryd.prog.cellsOf 32 := by have h_ := (hval 0 32 v0 rfl rfl); simp only [Value.okWide, Tryd.underlying32] at h_; obtain ⟨cs, h1, h2, _⟩ := h_; exact ⟨cs, h1, h2⟩
  subst ev0
  obtain ⟨w0_0, w0_1, ecs0, hr0_0, hr0_1⟩ := k_radomeref30_Config_out hK0
  have ecs0 : cs0.toList = _ := ecs0
  obtain rfl := Array.ext' (ys := ⟨_⟩) ecs0
  obtain ⟨y1, rfl, rfl, rfl, w1⟩ := open_int Tryd.underlying3 (hval 1 3 v1 rfl rfl) h1
  obtain ⟨y2, rfl, rfl, rfl, w2⟩ := open_int Tryd.underlying2 (hval 2 2 v2 rfl rfl) h2
  have hG : GH (snap W) := gh_of hGG
  clear hA0 hval0 hsz0 hsz hfit
  obtain ⟨k, hk⟩ := Pure.ConfigBack y0 y1 y2 hy0 w1 w2
  refine (law_end (radomelaw30_ConfigBack.calls k hG hk hr0_0 hr0_1)).mono fun e W' ⟨he, bel⟩ => ?_
  subst he
  exact ⟨_, rfl, _, _, _, [], _, [], hW', trodAll_mk1 (shut_bool Tryd.underlying4 _), (trodAll_cons_mk (Below.trod laidOut (by kernel_rfl) (of_decide_eq_true (by kernel_rfl)) k0 bel lt0) (trodAll_cons_mk (shut_int Tryd.underlying3 w1) (trodAll_cons_mk (shut_int Tryd.underlying2 w2) trodAll_mk0))), rfl, bel.frame _, fun h => by cases h⟩
theorem over : Rows.configBackRow.holds Tryd.pinned (OpenSpec.ofChange Rows.configBackSpec) :=
  OpenClaim.holds_of_wide 5 Tryd.f5 rfl rfl rfl rfl rfl rfl rfl ⟨rfl, rfl, rfl, rfl, rfl⟩ rfl rfl rfl rfl rfl (by kernel_rfl) Tryd.func5 (by kernel_rfl)
    (of_decide_eq_true (by kernel_rfl)) (by unfold Func.isWrapper; first | (rw [if_pos (by decide +kernel)]; kernel_rfl) | (rw [if_neg (by decide +kernel)]; exact ⟨rfl, rfl⟩))
    (fun os started H enc _ => lifted os started H enc)
theorem proved : Rows.ConfigBackCardSaid :=
  Claim7.holds_tied_plain_at .later [] [.handle] true (true, "c643ffbf6fbe1b8e03ba7a7b18322efd0db69ce645d0d3175216f6bb6390fcf0") true
    over (fun _ h => by cases h) (by kernel_rfl) (fun _ h => by cases h) configBack_row_tie rfl ⟨rfl, rfl⟩ (by kernel_rfl) rfl
    (fun f fn hf hfn => by
      obtain rfl : f = 5 := Option.some.inj ((show Tryd.prog.funcNamed "radome/radomelaw30.ConfigBack" = some 5 by kernel_rfl).symm.trans hf) |>.symm
      obtain rfl : fn = Tryd.f5 := (Option.some.inj (Tryd.func5.symm.trans hfn)).symm
      exact ⟨by kernel_rfl, fun j t ht => by
        rw [Tryd.params5] at ht
        have hm : t ∈ [32, 3, 2] := by exact List.mem_of_getElem? (l := [32, 3, 2]) (by simpa using ht)
        have hall : ∀ t ∈ [32, 3, 2], Tryd.prog.wantsStandIn t = false := by
          intro t ht
          simp only [List.mem_cons, List.mem_nil_iff, or_false] at ht
          rcases ht with rfl | rfl | rfl <;> kernel_rfl
        exact hall t hm⟩)
    (by kernel_rfl)
#print axioms proved
end Go.Proofs.YtfdedgoohjnhiaaDoor.configBack
namespace Go.Proofs.YtfdedgoohjnhiaaDoor
/-- The row, under a short name, for the claim. -/
theorem configBack_holds : Rows.ConfigBackCardSaid := configBack.proved
end Go.Proofs.YtfdedgoohjnhiaaDoor

/- The law ReportWrites, as its given statement has it: for every input the call returns true, and each argument reads behind it as before. Out of the pure statement and the walk of the code. -/
import Derived.Test.YtlokgnjlnefbbaaDoorRows
import Derived.Test.YtlokgnjlnefbbaaDoorCards
import Derived.Test.YtlokgnjlnefbbaaDoorTie
import Derived.Test.YtlokgnjlnefbbaaDoorGRWk13
import Derived.Test.YtlokgnjlnefbbaaDoorPureReportWrites
import Derived.WalkKit
import Derived.ProofKit
import Derived.OpenShut
import Derived.ShutString
import Derived.ChangeOld
import Derived.Below
import Derived.SizedLaws
import Derived.Carry
import Derived.ChangeSame
import Derived.ChangeVars
import Derived.JoinedOf
import Derived.RowKit
import Derived.RowKitTokens
import Derived.LaidLaws
import Derived.LaidHandle
import Derived.Stop.Joined
import Derived.SevenTiedAt
import Derived.Handed
namespace Go.Proofs.YtlokgnjlnefbbaaDoor.reportWrites
open Go.ChangeShapes Go.WideShapes Go.ChangeAt Go.RowKit
open Go.ChangeMaps (open_string shut_string)
open Go.Proofs.YtlokgnjlnefbbaaDoorK
open Go.Proofs.YtlokgnjlnefbbaaDoor.GRW
set_option linter.unusedVariables false
set_option linter.unusedSimpArgs false
theorem own : ownKnob Tryd.prog.godebug = none := by kernel_rfl
theorem laidOut : laidOutB Tryd.prog = true := by kernel_rfl
theorem et : Tryd.prog.globalNamed "errors.errorType" = some 0 := by kernel_rfl
theorem rt : (Tryd.prog.cutTypes.find? (·.1 == "internal/reflectlite.rtype")).map (·.2) = some 128 := by kernel_rfl
theorem oneRow : ((List.range 182).filter fun t => Tryd.prog.rowNamed t [101, 114, 114, 111, 114]) = [28] := by kernel_rfl
theorem tsize : Tryd.prog.types.size = 182 := by kernel_rfl
theorem handle_of_laid {W : World} (h : laidMetH Tryd.prog Rows.reportWritesRow.laid W) : GG W := by
  have h' : laidMet Tryd.prog [] W ∧ handlesMet Tryd.prog Rows.reportWritesRow.laid W := h
  obtain ⟨name, u, ty, e1, e2, e3, e4, e5⟩ := h'.2 _ (List.mem_singleton.2 rfl)
  have en : name = [101, 114, 114, 111, 114] := (Option.some.inj e1).symm
  subst en
  obtain rfl := Option.some.inj (rt.symm.trans e2)
  have hm : ty ∈ (List.range 182).filter fun t => Tryd.prog.rowNamed t [101, 114, 114, 111, 114] := List.mem_filter.2 ⟨List.mem_range.2 (by rw [← tsize]; exact e3), e4⟩
  rw [oneRow] at hm
  obtain rfl := List.mem_singleton.1 hm
  have hh : typeHandle Tryd.prog 28 = .pointer (some ⟨1, 28, none⟩) := by kernel_rfl
  rw [hh] at e5
  show W.cell? _ = _
  simpa using World.var?_cell et e5 0
noncomputable def laidWorld (os : Os) : World :=
  let w0 := World.holding Tryd.prog os ⟨#[], #[], []⟩
  { w0 with heap := w0.heap.modify 0 fun
      | .cells _ t frozen => .cells #[.iface 128 (.agg #[.pointer (some ⟨1, 28, none⟩)])] t frozen
      | o => o }
theorem laidWorld_met (os : Os) (args : Array Value) : laidMetH Tryd.prog Rows.reportWritesRow.laid ((laidWorld os).forCall (fun _ _ => 0) ⟨#[], args, []⟩).memory :=
  laidMetH_of_parts (laidMet_nil _ _) (by kernel_rfl)
set_option maxRecDepth 100000 in
theorem lifted (os : Os) (started : os.Started) (H : Type) (enc : TypeId × Value → H) :
    ReturnsInHanded {} Tryd.checked os 3 .any (fun w args => (Rows.reportWritesSpec.pre enc Tryd.prog Tryd.f3 Rows.reportWritesRow.domain false w args ∧ laidMetH Tryd.prog Rows.reportWritesRow.laid w) ∧ sizedMet enc Tryd.prog Tryd.f3 (OpenSpec.ofChange Rows.reportWritesSpec) false w args)
      (Rows.reportWritesSpec.post enc Tryd.prog Tryd.f3 false true false false) := by
  refine returnsInHanded_of_change_and (C := Tryd.checked) (X := fun w _ => laidMetH Tryd.prog Rows.reportWritesRow.laid w) (fun _ _ _ hh h => h.of_heap hh) own started (by kernel_rfl) Tryd.func3
    (ChangeSpec.witness_at (enc := enc) (C := Tryd.checked) (os := os) (X := fun w _ => laidMetH Tryd.prog Rows.reportWritesRow.laid w) false (laidWorld os) #[.int .u16 0, .slice none 0 0, .agg #[.int .i64 0, .int .i64 0]] 8 rfl (by kernel_rfl) (by kernel_rfl) (by kernel_rfl) (by kernel_rfl) (by kernel_rfl) (laidWorld_met os _)) ?_
  intro W base args ds gs before hval0 hW hcnd hsz0 hL _
  have hGG := handle_of_laid hL
  have hsz : (DataW.weightsEach Tryd.prog (Tryd.f3.params.toList ++ Rows.reportWritesSpec.plain.varTypes Tryd.prog) (ds ++ gs)).all (· ≤ reachBytes) = true := hsz0
  have hval : ∀ (j : Nat) t v, Tryd.f3.params[j]? = some t → args[j]? = some v → Value.okWide Tryd.prog W .any base t v := hval0
  have hW' := hW
  obtain ⟨p, q, hA0, hV0, rfl, hfz, hnd⟩ := hW
  have hA : DataW.TrodAll enc Tryd.prog W 0 (fun _ => true) true Tryd.f3.params.toList args.toList ds p := hA0
  have hV : DataW.TrodVars enc Tryd.prog W (fun _ => true) [] gs q := hV0
  rw [Tryd.params3] at hA hval hsz
  obtain ⟨v0, vs0, d0, ds0, p0, q0, hargs, rfl, rfl, h0, r0⟩ := trodAll_cons hA
  obtain ⟨v1, vs1, d1, ds1, p1, q1, rfl, rfl, rfl, h1, r1⟩ := trodAll_cons r0
  obtain ⟨v2, vs2, d2, ds2, p2, q2, rfl, rfl, rfl, h2, r2⟩ := trodAll_cons r1
  obtain ⟨rfl, rfl, rfl⟩ := trodAll_nil r2
  obtain rfl : args = #[v0, v1, v2] := by cases args; simp_all
  obtain ⟨rfl, rfl⟩ := trodVars_none hV
  have hfit := Fits.of_all hsz
  obtain ⟨y0, rfl, rfl, rfl, w0⟩ := open_int Tryd.underlying22 (hval 0 22 v0 rfl rfl) h0
  have k1 := h1
  have lt1 : ∀ x ∈ p1, x.block < W.heap.size := by obtain ⟨m, hm⟩ := k1; exact DataW.trod_lt m _ _ _ hm
  obtain ⟨fu1, hf1⟩ := h1
  obtain ⟨y1, hK1, hy1⟩ := ((opn_slice (B := 32) Tryd.underlying23 (by kernel_rfl) (by kernel_rfl) (by intro h_; cases h_) (Opn.map (opn_struct Tryd.underlying76 (by kernel_rfl) (OpnF.cons (opn_int Tryd.underlying22 (by kernel_rfl)) 0 (OpnF.cons (opn_int Tryd.underlying2 (by kernel_rfl)) 1 (OpnF.cons (opn_int Tryd.underlying21 (by kernel_rfl)) 2 (OpnF.cons (opn_int Tryd.underlying21 (by kernel_rfl)) 3 (OpnF.cons (opn_int Tryd.underlying38 (by kernel_rfl)) 4 (OpnF.cons (opn_int Tryd.underlying38 (by kernel_rfl)) 5 (OpnF.one (opn_int Tryd.underlying5 (by kernel_rfl)) 6)))))))) (fun z_ : radomeref29_Report => (z_.f_ID, (z_.f_Time, (z_.f_X, (z_.f_Y, (z_.f_VX, (z_.f_VY, z_.f_State))))))) (fun y_ => (⟨y_.1, y_.2.1, y_.2.2.1, y_.2.2.2.1, y_.2.2.2.2.1, y_.2.2.2.2.2.1, y_.2.2.2.2.2.2⟩ : radomeref29_Report)) (fun _ => rfl)))).op hf1 (weights_each (j := 1) (t := 23) rfl rfl hfit)
  clear hf1
  obtain ⟨a1, len1, cap1, rfl⟩ := okWide_slice Tryd.underlying23 (hval 1 23 v1 rfl rfl)
  obtain ⟨u1, e1, hr1⟩ := hK1
  have e1 : [Value.slice a1 len1 cap1] = [u1] := e1
  obtain rfl : u1 = .slice a1 len1 cap1 := by simpa using e1.symm
  have k2 := h2
  have lt2 : ∀ x ∈ p2, x.block < W.heap.size := by obtain ⟨m, hm⟩ := k2; exact DataW.trod_lt m _ _ _ hm
  obtain ⟨fu2, hf2⟩ := h2
  obtain ⟨y2, hK2, hy2⟩ := ((Opn.map (opn_array Tryd.underlying24 (by kernel_rfl) (OpnF.cons (opn_int Tryd.underlying2 (by kernel_rfl)) 0 (OpnF.one (opn_int Tryd.underlying2 (by kernel_rfl)) 1))) (fun z_ : T24 => (z_.e0, z_.e1)) (fun y_ => (⟨y_.1, y_.2⟩ : T24)) (fun _ => rfl))).op hf2 (weights_each (j := 2) (t := 24) rfl rfl hfit)
  clear hf2
  obtain ⟨cs2, ev2, hsz2⟩ : ∃ cs, v2 = .agg cs ∧ cs.size = Tryd.prog.cellsOf 24 := by have h_ := (hval 2 24 v2 rfl rfl); simp only [Value.okWide, Tryd.underlying24] at h_; obtain ⟨cs, h1, h2, _⟩ := h_; exact ⟨cs, h1, h2⟩
  subst ev2
  have ecs2 := k_T24_out hK2
  have ecs2 : cs2.toList = _ := ecs2
  obtain rfl := Array.ext' (ys := ⟨_⟩) ecs2
  have hG : GH (snap W) := gh_of hGG
  clear hA0 hval0 hsz0 hsz hfit
  obtain ⟨k, hk⟩ := Pure.ReportWrites y0 y1 y2 w0 hy1 hy2
  refine (law_end (radomelaw29_ReportWrites.calls k hG hk hr1)).mono fun e W' ⟨he, bel⟩ => ?_
  subst he
  exact ⟨_, rfl, _, _, _, [], _, [], hW', trodAll_mk1 (shut_bool Tryd.underlying4 _), (trodAll_cons_mk (shut_int Tryd.underlying22 w0) (trodAll_cons_mk (Below.trod laidOut (by kernel_rfl) (of_decide_eq_true (by kernel_rfl)) k1 bel lt1) (trodAll_cons_mk (Below.trod laidOut (by kernel_rfl) (of_decide_eq_true (by kernel_rfl)) k2 bel lt2) trodAll_mk0))), rfl, bel.frame _, fun h => by cases h⟩
theorem over : Rows.reportWritesRow.holds Tryd.pinned (OpenSpec.ofChange Rows.reportWritesSpec) :=
  OpenClaim.holds_of_wide 3 Tryd.f3 rfl rfl rfl rfl rfl rfl rfl ⟨rfl, rfl, rfl, rfl, rfl⟩ rfl rfl rfl rfl rfl (by kernel_rfl) Tryd.func3 (by kernel_rfl)
    (of_decide_eq_true (by kernel_rfl)) (by unfold Func.isWrapper; first | (rw [if_pos (by decide +kernel)]; kernel_rfl) | (rw [if_neg (by decide +kernel)]; exact ⟨rfl, rfl⟩))
    (fun os started H enc _ => lifted os started H enc)
theorem proved : Rows.ReportWritesCardSaid :=
  Claim7.holds_tied_plain_at .later [] [.handle] true (true, "554c1f7909740f1538b201d0613b8423e03b0c4e4e235761bac847c388b20e69") true
    over (fun _ h => by cases h) (by kernel_rfl) (fun _ h => by cases h) reportWrites_row_tie rfl ⟨rfl, rfl⟩ (by kernel_rfl) rfl
    (fun f fn hf hfn => by
      obtain rfl : f = 3 := Option.some.inj ((show Tryd.prog.funcNamed "radome/radomelaw29.ReportWrites" = some 3 by kernel_rfl).symm.trans hf) |>.symm
      obtain rfl : fn = Tryd.f3 := (Option.some.inj (Tryd.func3.symm.trans hfn)).symm
      exact ⟨by kernel_rfl, fun j t ht => by
        rw [Tryd.params3] at ht
        have hm : t ∈ [22, 23, 24] := by exact List.mem_of_getElem? (l := [22, 23, 24]) (by simpa using ht)
        have hall : ∀ t ∈ [22, 23, 24], Tryd.prog.wantsStandIn t = false := by
          intro t ht
          simp only [List.mem_cons, List.mem_nil_iff, or_false] at ht
          rcases ht with rfl | rfl | rfl <;> kernel_rfl
        exact hall t hm⟩)
    (by kernel_rfl)
#print axioms proved
end Go.Proofs.YtlokgnjlnefbbaaDoor.reportWrites
namespace Go.Proofs.YtlokgnjlnefbbaaDoor
/-- The row, under a short name, for the claim. -/
theorem reportWrites_holds : Rows.ReportWritesCardSaid := reportWrites.proved
end Go.Proofs.YtlokgnjlnefbbaaDoor

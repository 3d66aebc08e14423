/- The law BoundHolds, as its given statement has it: for every input the call returns true, and each argument reads behind it as before. Out of the pure statement and the walk of the code. -/
import Derived.Test.YtkccpkccdbfomaaGreatDoorRows
import Derived.Test.YtkccpkccdbfomaaGreatDoorCards
import Derived.Test.YtkccpkccdbfomaaGreatDoorTie
import Derived.Test.YtkccpkccdbfomaaGreatDoorGBHk21
import Derived.Test.YtkccpkccdbfomaaGreatDoorPureBoundHolds
import Derived.WalkKit
import Derived.ProofKit
import Derived.OpenShut
import Derived.ShutString
import Derived.ChangeOld
import Derived.Below
import Derived.SizedLaws
import Derived.Carry
import Derived.ChangeSame
import Derived.ChangeVars
import Derived.JoinedOf
import Derived.RowKit
import Derived.RowKitTokens
import Derived.LaidLaws
import Derived.LaidHandle
import Derived.Stop.Joined
import Derived.SevenTiedAt
import Derived.Handed
import Derived.Deep.DeepHandedRow
namespace Go.Proofs.YtkccpkccdbfomaaGreatDoor.boundHolds
open Go.ChangeShapes Go.WideShapes Go.ChangeAt Go.RowKit
open Go.ChangeMaps (open_string shut_string)
open Go.Proofs.YtkccpkccdbfomaaGreatDoorK
open Go.Proofs.YtkccpkccdbfomaaGreatDoor.GBH
set_option linter.unusedVariables false
set_option linter.unusedSimpArgs false
theorem own : ownKnob Tryz.prog.godebug = none := by kernel_rfl
theorem laidOut : laidOutB Tryz.prog = true := by kernel_rfl
theorem et : Tryz.prog.globalNamed "errors.errorType" = some 0 := by kernel_rfl
theorem rt : (Tryz.prog.cutTypes.find? (·.1 == "internal/reflectlite.rtype")).map (·.2) = some 193 := by kernel_rfl
theorem oneRow : ((List.range 262).filter fun t => Tryz.prog.rowNamed t [101, 114, 114, 111, 114]) = [30] := by kernel_rfl
theorem tsize : Tryz.prog.types.size = 262 := by kernel_rfl
theorem MP {W : World} (h : laidMetH Tryz.prog Rows.boundHoldsUptoRow.laid W) : GG W := by
  have h' : laidMet Tryz.prog [] W ∧ handlesMet Tryz.prog Rows.boundHoldsUptoRow.laid W := h
  obtain ⟨name, u, ty, e1, e2, e3, e4, e5⟩ := h'.2 _ (List.mem_singleton.2 rfl)
  have en : name = [101, 114, 114, 111, 114] := (Option.some.inj e1).symm
  subst en
  obtain rfl := Option.some.inj (rt.symm.trans e2)
  have hm : ty ∈ (List.range 262).filter fun t => Tryz.prog.rowNamed t [101, 114, 114, 111, 114] := List.mem_filter.2 ⟨List.mem_range.2 (by rw [← tsize]; exact e3), e4⟩
  rw [oneRow] at hm
  obtain rfl := List.mem_singleton.1 hm
  have hh : typeHandle Tryz.prog 30 = .pointer (some ⟨1, 30, none⟩) := by kernel_rfl
  rw [hh] at e5
  show W.cell? _ = _
  simpa using World.var?_cell et e5 0
noncomputable def laidWorld (os : Os) : World :=
  let w0 := World.holding Tryz.prog os ⟨#[], #[], []⟩
  { w0 with heap := w0.heap.modify 0 fun
      | .cells _ t frozen => .cells #[.iface 193 (.agg #[.pointer (some ⟨1, 30, none⟩)])] t frozen
      | o => o }
theorem Nf (os : Os) (args : Array Value) : laidMetH Tryz.prog Rows.boundHoldsUptoRow.laid ((laidWorld os).forCall (fun _ _ => 0) ⟨#[], args, []⟩).memory :=
  laidMetH_of_parts (laidMet_nil _ _) (by kernel_rfl)
theorem Qao {H : Type} (d : DataW H) : 1 ≤ Rows.uptoBulk d := by
  cases d with
  | lit l => cases l <;> simp [Rows.uptoBulk]
  | nil => simp [Rows.uptoBulk]
  | ptr d => simp [Rows.uptoBulk]
  | slice a b => simp [Rows.uptoBulk]
  | agg a => simp [Rows.uptoBulk]
  | iface t d => simp [Rows.uptoBulk]
  | map a => simp [Rows.uptoBulk]
  | held h => simp [Rows.uptoBulk]
theorem Nv {H : Type} : ∀ l : List (DataW H), l.length ≤ Rows.uptoBulkAll l
  | [] => by simp [Rows.uptoBulkAll]
  | d :: l => by
    have h1 := Qao d
    have h2 := Nv l
    simp only [Rows.uptoBulkAll, List.length_cons]; omega
theorem J7 {P : Program} {H : Type} {enc : TypeId × Value → H} {W : World} {held : Bool} {fuel : Nat} {v : Value} {x : DataW H × List MemPlace} {t e : TypeId} {α : Type} {kd : Kd α} {y : List α} (ht : P.underlying t = some (.slice e)) (hx : DataW.trod enc P W 0 (fun _ => true) held fuel t [v] = some x) (hr : Ro kd (snap W) v y) : y.length ≤ Rows.uptoBulk x.1 := by
  obtain ⟨A, c, rfl, _⟩ := hr
  rcases Go.Deep.open_slice ht hx with ⟨h1, h2⟩ | ⟨a, len, cap, m, n, D, Pl, h1, _, hl, hm, hmm, h2, hi⟩
  · have : y.length = 0 := by injection h1 with h1; injection h1
    omega
  · have e1 : y.length = len := by injection h1 with h1; injection h1
    subst h2
    have := Nv ((List.range len).map D)
    simp only [List.length_map, List.length_range] at this
    simp only [Rows.uptoBulk]
    omega
theorem reads (os : Os) {H : Type} (enc : TypeId × Value → H) : ∃ places, DataW.whole enc Tryz.prog ((laidWorld os).forCall (fun _ _ => 0) ⟨#[], #[.slice none 0 0, .slice none 0 0, .slice none 0 0], []⟩).memory Tryz.f7.params.toList Rows.boundHoldsSpec.vars false (#[.slice none 0 0, .slice none 0 0, .slice none 0 0] : Array Value).toList 8 = some ([.nil, .nil, .nil], [], places) := ⟨[], by kernel_rfl⟩
set_option maxRecDepth 100000 in
theorem lifted (os : Os) (started : os.Started) (H : Type) (enc : TypeId × Value → H) (F : Stop.Interp) :
    ReturnsInHanded {} Tryz.checked os 7 .any ((Rows.OpenSpec.upto Rows.boundHoldsSpec).preRow enc Tryz.prog Tryz.f7 Rows.boundHoldsUptoRow.domain false Rows.boundHoldsUptoRow.laid) (((Rows.OpenSpec.upto Rows.boundHoldsSpec).at F).post enc Tryz.prog Tryz.f7 false true false false) := by
  obtain ⟨places, hx⟩ := reads os enc
  refine returnsInHanded_of_row (C := Tryz.checked) (s := Rows.OpenSpec.upto Rows.boundHoldsSpec) own started (by kernel_rfl) Tryz.func7
    (witness_row_at (enc := enc) (C := Tryz.checked) false (laidWorld os) #[.slice none 0 0, .slice none 0 0, .slice none 0 0] rfl (by kernel_rfl) (by kernel_rfl) (by kernel_rfl)
      (OpenSpec.preRow_of_cond 8 hx (by kernel_rfl) (fun k hk => by cases hk; kernel_rfl) (by kernel_rfl) (Nf os _))) ?_
  intro W base args ds gs before hval0 hW hcnd hcond hsz0 hL _ _
  have hblk : Rows.uptoBulkAll (ds ++ gs) ≤ 1048576 := of_decide_eq_true (hcond _ rfl)
  have hGG := MP hL
  have hsz : (DataW.weightsEach Tryz.prog (Tryz.f7.params.toList ++ Rows.boundHoldsSpec.plain.varTypes Tryz.prog) (ds ++ gs)).all (· ≤ reachBytes) = true := hsz0
  have hval : ∀ (j : Nat) t v, Tryz.f7.params[j]? = some t → args[j]? = some v → Value.okWide Tryz.prog W .any base t v := hval0
  have hW' := hW
  obtain ⟨p, q, hA0, hV0, rfl, hfz, hnd⟩ := hW
  have hA : DataW.TrodAll enc Tryz.prog W 0 (fun _ => true) true Tryz.f7.params.toList args.toList ds p := hA0
  have hV : DataW.TrodVars enc Tryz.prog W (fun _ => true) [] gs q := hV0
  rw [Tryz.params7] at hA hval hsz
  obtain ⟨v0, vs0, d0, ds0, p0, q0, hargs, rfl, rfl, h0, r0⟩ := trodAll_cons hA
  obtain ⟨v1, vs1, d1, ds1, p1, q1, rfl, rfl, rfl, h1, r1⟩ := trodAll_cons r0
  obtain ⟨v2, vs2, d2, ds2, p2, q2, rfl, rfl, rfl, h2, r2⟩ := trodAll_cons r1
  obtain ⟨rfl, rfl, rfl⟩ := trodAll_nil r2
  obtain rfl : args = #[v0, v1, v2] := by cases args; simp_all
  obtain ⟨rfl, rfl⟩ := trodVars_none hV
  have hfit := Fits.of_all hsz
  have k0 := h0
  have lt0 : ∀ x ∈ p0, x.block < W.heap.size := by obtain ⟨m, hm⟩ := k0; exact DataW.trod_lt m _ _ _ hm
  obtain ⟨fu0, hf0⟩ := h0
  obtain ⟨y0, hK0, hy0⟩ := ((JN (B := 24) Tryz.underlying71 (by kernel_rfl) (by kernel_rfl) (by intro h_; cases h_) (JN (B := 8) Tryz.underlying72 (by kernel_rfl) (by kernel_rfl) (by intro h_; cases h_) (MJ Tryz.underlying2 (by kernel_rfl))))).op hf0 (JG (j := 0) (t := 71) rfl rfl hfit)
  obtain ⟨a0, len0, cap0, rfl⟩ := okWide_slice Tryz.underlying71 (hval 0 71 v0 rfl rfl)
  obtain ⟨u0, e0, hr0⟩ := hK0
  have e0 : [Value.slice a0 len0 cap0] = [u0] := e0
  obtain rfl : u0 = .slice a0 len0 cap0 := by simpa using e0.symm
  have hu0 : y0.length ≤ Rows.uptoBulk d0 := J7 Tryz.underlying71 hf0 hr0
  clear hf0
  have k1 := h1
  have lt1 : ∀ x ∈ p1, x.block < W.heap.size := by obtain ⟨m, hm⟩ := k1; exact DataW.trod_lt m _ _ _ hm
  obtain ⟨fu1, hf1⟩ := h1
  obtain ⟨y1, hK1, hy1⟩ := ((JN (B := 8) Tryz.underlying72 (by kernel_rfl) (by kernel_rfl) (by intro h_; cases h_) (MJ Tryz.underlying2 (by kernel_rfl)))).op hf1 (JG (j := 1) (t := 72) rfl rfl hfit)
  obtain ⟨a1, len1, cap1, rfl⟩ := okWide_slice Tryz.underlying72 (hval 1 72 v1 rfl rfl)
  obtain ⟨u1, e1, hr1⟩ := hK1
  have e1 : [Value.slice a1 len1 cap1] = [u1] := e1
  obtain rfl : u1 = .slice a1 len1 cap1 := by simpa using e1.symm
  have hu1 : y1.length ≤ Rows.uptoBulk d1 := J7 Tryz.underlying72 hf1 hr1
  clear hf1
  have k2 := h2
  have lt2 : ∀ x ∈ p2, x.block < W.heap.size := by obtain ⟨m, hm⟩ := k2; exact DataW.trod_lt m _ _ _ hm
  obtain ⟨fu2, hf2⟩ := h2
  obtain ⟨y2, hK2, hy2⟩ := ((JN (B := 8) Tryz.underlying72 (by kernel_rfl) (by kernel_rfl) (by intro h_; cases h_) (MJ Tryz.underlying2 (by kernel_rfl)))).op hf2 (JG (j := 2) (t := 72) rfl rfl hfit)
  obtain ⟨a2, len2, cap2, rfl⟩ := okWide_slice Tryz.underlying72 (hval 2 72 v2 rfl rfl)
  obtain ⟨u2, e2, hr2⟩ := hK2
  have e2 : [Value.slice a2 len2 cap2] = [u2] := e2
  obtain rfl : u2 = .slice a2 len2 cap2 := by simpa using e2.symm
  have hu2 : y2.length ≤ Rows.uptoBulk d2 := J7 Tryz.underlying72 hf2 hr2
  clear hf2
  have hG : GH (snap W) := QaI hGG
  simp only [List.cons_append, List.nil_append, List.append_nil, Rows.uptoBulkAll] at hblk
  have hlen0 : y0.length ≤ 1048576 := by omega
  have hlen1 : y1.length ≤ 1048576 := by omega
  have hlen2 : y2.length ≤ 1048576 := by omega
  clear hA0 hval0 hsz0 hsz hfit
  obtain ⟨k, hk⟩ := Pure.BoundHolds y0 y1 y2 hy0 hy1 hy2 hlen0 hlen1 hlen2
  refine (WF (radomelaw35_BoundHolds.calls k hG hk hr0 hr1 hr2)).mono fun e W' ⟨he, bel⟩ => ?_
  subst he
  exact ⟨_, rfl, _, _, _, [], _, [], hW', trodAll_mk1 (shut_bool Tryz.underlying4 _), (trodAll_cons_mk (Below.trod laidOut (by kernel_rfl) (of_decide_eq_true (by kernel_rfl)) k0 bel lt0) (trodAll_cons_mk (Below.trod laidOut (by kernel_rfl) (of_decide_eq_true (by kernel_rfl)) k1 bel lt1) (trodAll_cons_mk (Below.trod laidOut (by kernel_rfl) (of_decide_eq_true (by kernel_rfl)) k2 bel lt2) trodAll_mk0))), rfl, bel.frame _, fun h => by cases h⟩
theorem over : Rows.boundHoldsUptoRow.holds Tryz.pinned (Rows.OpenSpec.upto Rows.boundHoldsSpec) :=
  OpenClaim.holds_of_cond 7 Tryz.f7 rfl rfl rfl rfl rfl rfl rfl ⟨rfl, rfl, rfl, rfl, rfl⟩ rfl rfl rfl rfl rfl (by kernel_rfl) Tryz.func7 (by kernel_rfl)
    (of_decide_eq_true (by kernel_rfl)) (by unfold Func.isWrapper; first | (rw [if_pos (by decide +kernel)]; kernel_rfl) | (rw [if_neg (by decide +kernel)]; exact ⟨rfl, rfl⟩))
    (fun os started H enc _ F => by rw [OpenClaim.pre_eq_preRow]; exact lifted os started H enc F)
theorem proved : Rows.BoundHoldsUptoCardSaid :=
  Claim7.holds_tied_plain_at .later [] [.handle] true (true, "078f43bdbc96207b6589a487a5ab76fb1f62de424bc5d4632a14d20cc660a95f") true
    over (fun _ h => by cases h) (by kernel_rfl) (fun _ h => by cases h) boundHoldsUpto_row_tie rfl ⟨rfl, rfl⟩ (by kernel_rfl) rfl
    (fun f fn hf hfn => by
      obtain rfl : f = 7 := Option.some.inj ((show Tryz.prog.funcNamed "radome/radomelaw35.BoundHolds" = some 7 by kernel_rfl).symm.trans hf) |>.symm
      obtain rfl : fn = Tryz.f7 := (Option.some.inj (Tryz.func7.symm.trans hfn)).symm
      exact ⟨by kernel_rfl, fun j t ht => by
        rw [Tryz.params7] at ht
        have hm : t ∈ [71, 72, 72] := by exact List.mem_of_getElem? (l := [71, 72, 72]) (by simpa using ht)
        have hall : ∀ t ∈ [71, 72, 72], Tryz.prog.wantsStandIn t = false := by
          intro t ht
          simp only [List.mem_cons, List.mem_nil_iff, or_false] at ht
          rcases ht with rfl | rfl | rfl <;> kernel_rfl
        exact hall t hm⟩)
    (by kernel_rfl)
#print axioms proved
end Go.Proofs.YtkccpkccdbfomaaGreatDoor.boundHolds
namespace Go.Proofs.YtkccpkccdbfomaaGreatDoor
/-- The row, under a short name, for the claim. -/
theorem boundHoldsUpto_holds : Rows.BoundHoldsUptoCardSaid := boundHolds.proved
end Go.Proofs.YtkccpkccdbfomaaGreatDoor

/- New slices, strings, calls, results, comparisons. -/
import Derived.Test.YtjhpkkhcgpilfaaDoorGNOk5
import Derived.Laws.Strings
import Derived.Laws.BytesString
import Derived.Laws.Small
import Derived.Laws.StructEq
namespace Go.Proofs.YtjhpkkhcgpilfaaDoorK
open Go Go.RowKit
set_option linter.unusedVariables false
set_option linter.unusedSimpArgs false
section
variable {P : Program} {f : FuncId} {n : Nat} {k : List Item} {σ : Nat → Value} {H : Hp} {L : Items} {R : Value → Hp → Items → Prop}
structure CallOk (P : Program) (g : FuncId) : Prop where
  ok : ∃ fn, P.funcs[g]? = some fn ∧ (fn.name == "runtime.NumGoroutine") = false ∧ fn.body.isNone = false
theorem run_enter {g : FuncId} (hg : CallOk P g) {oas : Array Operand} {ats : Array TypeId} {vs : List Value} (ha : oas.toList.map (ev n σ) = vs) (o : Oper) (ho : o.op = .call { callee := .value (.func g), args := oas, argTypes := ats }) (w : World) : (execOp (ev n σ) o).run P w = .ok (.enter g ⟨vs⟩) w := by
  obtain ⟨fn, h1, h2, h3⟩ := hg.ok
  unfold execOp; rw [ho]
  have : oas.map (ev n σ) = ⟨vs⟩ := by apply Array.ext'; simp [← ha]
  have h2' : ¬ fn.name = "runtime.NumGoroutine" := by simpa using h2
  have h3' : ¬ fn.body = none := fun e => by rw [e] at h3; cases h3
  simp [resolve, ev, Deferred.ofValue, invoke, callFunc, h1, h2', h3', this]
theorem o_call {g : FuncId} (hg : CallOk P g) {oas : Array Operand} {ats : Array TypeId} {vs : List Value} {Ψ} (ha : oas.toList.map (ev n σ) = vs) (h : Ct P g ⟨vs⟩ H L Ψ) : OpA P n σ H L (.call { callee := .value (.func g), args := oas, argTypes := ats }) Ψ :=
  fun o ho => opr_call (fun w _ => run_enter hg ha o ho w) h
inductive Res (P : Program) (n : Nat) (σ : Nat → Value) (H : Hp) (L : Items) : List ResultVar → List Value → Prop
  | nil : Res P n σ H L [] []
  | tmp {t v rs vs} : ev n σ (.tmp t) = v → Res P n σ H L rs vs → Res P n σ H L (.tmp t :: rs) (v :: vs)
  | cell {a t p agg sz cs v rs vs} : ev n σ (.tmp a) = .pointer (some p) → TyA P t agg sz → Nat.beq cs.length sz = true → (agg || Nat.beq sz 1) = true → Lies H L p cs → vof agg cs = v → Res P n σ H L rs vs → Res P n σ H L (.cell a t :: rs) (v :: vs)
theorem Res.box {a t b agg sz cs T fz rs vs v} (ha : ev n σ (.tmp a) = .pointer (some ⟨b, 0, none⟩)) (ht : TyA P t agg sz) (hl : Nat.beq cs.length sz = true) (h1 : (agg || Nat.beq sz 1) = true) (hm : Has L (some (b, .cells ⟨cs⟩ T fz))) (hv : vof agg cs = v) (h : Res P n σ H L rs vs) : Res P n σ H L (.cell a t :: rs) (v :: vs) :=
  .cell ha ht hl h1 (by have := lies_box (H := H) hm 0 cs.length; simpa using this) hv h
def tup : List Value → Value
  | [v] => v
  | vs => .tuple ⟨vs⟩
def resOf (n : Nat) (σ : Nat → Value) : ResultVar → Sem Value
  | .tmp t => pure ((fr n σ).getD t undef)
  | .cell a t => do loadVar t (← asAddr ((fr n σ).getD a undef))
theorem res_run {rs : List ResultVar} {vs : List Value} (h : Res P n σ H L rs vs) {w : World} (hw : Own H w L) : (rs.mapM (resOf n σ) : Sem (List Value)).run P w = .ok vs w := by
  induction h with
  | nil => simp
  | tmp h1 h2 ih =>
    rw [ev, ← fr_getD] at h1
    simp only [List.mapM_cons, resOf, Sem.run_bind, Sem.run_pure, Result.andThen_ok, ih, h1]
  | @cell a t p agg sz cs v rs vs h1 h2 h3 h4 h5 h6 h7 ih =>
    rw [ev, ← fr_getD] at h1
    have := run_loadVar (P := P) h2 (Nat.eq_of_beq_eq_true h3) (fun e => by rw [e] at h4; exact Nat.eq_of_beq_eq_true h4) (h5 w hw)
    simp only [List.mapM_cons, resOf, Sem.run_bind, h1, asAddr, Sem.run_pure, Result.andThen_ok, this, h6, ih]
theorem res_results {fn : Func} {rs : List ResultVar} {vs : List Value} (hr : fn.results = ⟨rs⟩) (h : Res P n σ H L rs vs) {w : World} (hw : Own H w L) : (results fn (fr n σ)).run P w = .ok (tup vs) w := by
  have := res_run h hw
  have e : results fn (fr n σ) = (do let vs ← fn.results.mapM (resOf n σ); pure (if h : vs.size = 1 then vs[0] else .tuple vs)) := by
    unfold results; congr 1
  rw [e, hr, Array.mapM_eq_mapM_toList]
  simp only [Sem.run_bind, Sem.run_map, this]
  simp only [Result.andThen_ok, Sem.run_pure]
  congr 1
  match vs with
  | [] => rfl
  | [v] => rfl
  | v :: u :: vs => simp [tup]
theorem w_return {fn : Func} {rs : List ResultVar} {vs : List Value} (hf : P.funcs[f]? = some fn) (hr : fn.results = ⟨rs⟩) (h : Res P n σ H L rs vs) (hR : R (tup vs) H L) : Wp P f n (.code .ret :: k) σ H L R := w_ret hf (fun w hw => res_results hr h hw) hR
theorem run_eqn {t T : TypeId} {ms} (ht : P.underlying t = some (.interface ms)) (e : Option Int) (w : World) : (Op.equal t (errV T e) .nilIface).run P w = .ok e.isNone w := by
  show (Op.equalIn (9999 + 1) t (errV T e) .nilIface).run P w = _
  cases e <;> (rw [Op.equalIn]; simp [errV, run_underlying ht])
theorem run_eqg {op : BinOp} {t T : TypeId} {x : Operand} (e : Option Int) (w : World) : (eqGuard op t x (.const .nilIface) (errV T e) .nilIface).run P w = .ok () w := by
  cases op <;> cases e <;> simp [eqGuard, errV]
theorem d_eqnil {t ty : TypeId} {x : Operand} {T : TypeId} {e : Option Int} {ms} (ht : P.underlying t = some (.interface ms)) (hx : ev n σ x = errV T e) : OpA P n σ H L (.binOp .eql t x (.const .nilIface) ty) (Is (.bool e.isNone) H L) := opA_any fun o ho w => by
  unfold execOp; rw [ho]; have h1 := run_eqn (T := T) ht e w; have h2 := run_eqg (P := P) (op := .eql) (t := t) (T := T) (x := x) e w; have h3 : binOp .eql t (errV T e) .nilIface = (do pure (.bool (← Op.equal t (errV T e) .nilIface)) : Sem Value) := by cases e <;> rfl
  simp only [Sem.run_bind, hx, show ev n σ (.const .nilIface) = .nilIface from rfl, h1, h2, h3, Result.andThen_ok, Sem.run_pure]
theorem d_nenil {t ty : TypeId} {x : Operand} {T : TypeId} {e : Option Int} {ms} (ht : P.underlying t = some (.interface ms)) (hx : ev n σ x = errV T e) : OpA P n σ H L (.binOp .neq t x (.const .nilIface) ty) (Is (.bool e.isSome) H L) := opA_any fun o ho w => by
  unfold execOp; rw [ho]; have h1 := run_eqn (T := T) ht e w; have h2 := run_eqg (P := P) (op := .neq) (t := t) (T := T) (x := x) e w; have h3 : binOp .neq t (errV T e) .nilIface = (do pure (.bool (!(← Op.equal t (errV T e) .nilIface))) : Sem Value) := by cases e <;> rfl
  simp only [Sem.run_bind, hx, show ev n σ (.const .nilIface) = .nilIface from rfl, h1, h2, h3, Result.andThen_ok, Sem.run_pure]
  cases e <;> rfl
instance : DecidableEq ByteArray := inferInstance
end
end Go.Proofs.YtjhpkkhcgpilfaaDoorK

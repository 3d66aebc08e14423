/- New slices, strings, calls, results, comparisons. -/
import Derived.Test.YtjhpkkhcgpilfaaDoorGTOk5
import Derived.Laws.Strings
import Derived.Laws.BytesString
import Derived.Laws.Small
import Derived.Laws.StructEq
namespace Go.Proofs.YtjhpkkhcgpilfaaDoorK
open Go Go.RowKit
set_option linter.unusedVariables false
set_option linter.unusedSimpArgs false
section
variable {P : Program} {f : FB} {n : Nat} {k : List Item} {σ : Nat → Value} {H : Hp} {L : Items} {R : Value → Hp → Items → Prop}
theorem run_newRow (e : TypeId) (cells : Array Value) (w : World) : (newRow e cells).run P w = .ok ⟨w.heap.size, 0, none⟩ { w with heap := w.heap.push (.cells cells e (0, 0)) } := rfl
theorem zeros_range (z : Array Value) (m : Nat) : (((Array.range (m * z.size)).map (z[· % z.size]!)).toList : List Value) = (List.replicate m z.toList).flatten := zeros_toList z m
/-- make([]T, len, cap). -/
theorem o_make {α : Type} {kd : Kd α} {t e : TypeId} {x y : Operand} {K K' : IntKind} {l c : Int} {z : Value} {z0 : α} {i : TypeInfo} (ht : P.underlying t = some (.slice e)) (hi : P.info? e = some i) (hsz : i.size = kd.sz) (hz : i.zero = some z) (hz0 : kd.rep H z.cells.toList z0) (hx : ev n σ x = .int K l) (hy : ev n σ y = .int K' c) (hb : i.bytes * c ≤ 281474976710656) (hc : c ≤ 9223372036854775807) (hl : 0 ≤ l ∧ l ≤ c) :
    OpA P n σ H L (.makeSlice t x y) (fun v' H' L' => ∃ it, H = H' ∧ L' = it :: L ∧ Sl kd H e it v' (List.replicate l.toNat z0)) := fun o ho => opr_run fun w hw => by
  have hw1 : IntKind.i64.wrap l = l := w64_id (by omega)
  have hw2 : IntKind.i64.wrap c = c := w64_id (by omega)
  have hzl : z.cells.size = kd.sz := by have := kd.len hz0; simpa using this
  have hcond : ¬ (c < 0 ∨ 281474976710656 < (i.bytes : Int) * c) := by omega
  have hcells : ∀ m : Nat, m = c.toNat * kd.sz → (if m = 0 then (pure #[] : Sem (Array Value)) else do pure (← zeroValue e).cells).run P w = .ok (if m = 0 then #[] else z.cells) w := fun m _ => by
    by_cases h : m = 0
    · simp [h]
    · simp [h, zeroValue, typeInfo, hi, hz]
  refine ⟨.slice (some ⟨w.heap.size, 0, none⟩) l.toNat c.toNat, { w with heap := w.heap.push (.cells ((Array.range (c.toNat * kd.sz)).map ((if c.toNat * kd.sz = 0 then #[] else z.cells)[· % (if c.toNat * kd.sz = 0 then #[] else z.cells).size]!)) e (0, 0)) }, H, _, .inl ?_, hw.alloc _, _, rfl, rfl, .inr ⟨_, 0, _, c.toNat, rfl, by simp, by simp; omega, by simp, ?_⟩⟩
  · unfold execOp; rw [ho]
    have h1 : (decide (c < 0) || decide ((i.bytes : Int) * c > 2 ^ 48)) = false := by
      have : (2 : Int) ^ 48 = 281474976710656 := by decide
      rw [this]; simp; omega
    have h1' : ¬ (281474976710656 < (i.bytes : Int) * c) := by omega
    by_cases h0 : c.toNat * kd.sz = 0
    · simp [Instr.makeSlice, run_underlying ht, hx, hy, asInt, asIntOf, typeInfo, hi, hw1, hw2, h1', show ¬ (c < 0) by omega, show ¬ (l < 0) by omega, show ¬ (c < l) by omega, sizeOf, hsz, h0, run_newRow]
    · simp [Instr.makeSlice, run_underlying ht, hx, hy, asInt, asIntOf, typeInfo, hi, hw1, hw2, h1', show ¬ (c < 0) by omega, show ¬ (l < 0) by omega, show ¬ (c < l) by omega, sizeOf, hsz, h0, zeroValue, hz, run_newRow]
  · rw [List.drop_zero]
    by_cases h : c.toNat * kd.sz = 0
    · have h0 : l.toNat * kd.sz = 0 := by
        have := Nat.mul_le_mul_right kd.sz (show l.toNat ≤ c.toNat by omega); omega
      simp only [List.length_replicate, h0, List.take_zero]
      have := Reps.replicate hz0 l.toNat
      have hl0 := this.len
      rw [List.length_replicate, h0] at hl0
      rwa [List.eq_nil_of_length_eq_zero hl0] at this
    · simp only [if_neg h]
      have e1 : ((Array.range (c.toNat * kd.sz)).map (z.cells[· % z.cells.size]!)).toList = (List.replicate c.toNat z.cells.toList).flatten := by rw [← hzl]; exact zeros_range _ _
      rw [e1, List.length_replicate]
      have h3 := (Reps.replicate hz0 c.toNat).take l.toNat
      rwa [List.take_replicate, show min l.toNat c.toNat = l.toNat by omega] at h3
/-- A slice's literal, its elements in order. -/
def litOf (sz : Nat) : Nat → List (List Value) → List (Nat × Value) → Prop
  | _, [], ps => ps = []
  | i, cs :: r, ps => ∃ v ps', ps = (i, v) :: ps' ∧ v.cells = ⟨cs⟩ ∧ litOf sz (i + 1) r ps'
theorem fill_lit {sz : Nat} : ∀ (css : List (List Value)) (i : Nat) (ps : List (Nat × Value)) (pre post : List Value), litOf sz i css ps → (∀ c ∈ css, c.length = sz) → pre.length = i * sz → post.length = css.length * sz → Instr.fill (fun i => some (i * sz, sz)) ⟨pre ++ post⟩ ps = some ⟨pre ++ css.flatten⟩
  | [], i, ps, pre, post, h, _, h2, h3 => by
    rw [show ps = [] from h, show post = [] from List.eq_nil_of_length_eq_zero (by simpa using h3)]; rfl
  | c :: css, i, ps, pre, post, h, hc, h2, h3 => by
    obtain ⟨v, ps', rfl, hv, h4⟩ := h
    have hcl := hc c (List.mem_cons_self ..)
    have hpl : post.length = sz + css.length * sz := by rw [h3, List.length_cons, Nat.succ_mul]; omega
    simp only [Instr.fill, hv]
    rw [if_neg (by simp [h2, hpl, hcl])]
    have hf : (List.toArray c).zipIdx.foldl (fun cs (x : Value × Nat) => cs.setIfInBounds (i * sz + x.2) x.1) (List.toArray (pre ++ post)) = ⟨(pre ++ c) ++ post.drop sz⟩ := by
      rw [← Array.foldl_toList]
      have := foldl_set c (i * sz) 0 ⟨pre ++ post⟩ (by simp [h2, hpl, hcl])
      simp only [Nat.add_zero] at this
      have e : (List.toArray (pre ++ post)).toList.take (i * sz) ++ c ++ (List.toArray (pre ++ post)).toList.drop (i * sz + c.length) = (pre ++ c) ++ post.drop sz := by
        simp only [hcl]
        rw [← h2, List.take_left, List.drop_append, List.drop_of_length_le (by omega), List.nil_append]
        congr 2; omega
      rw [← e, ← this]; congr 1; simp [Array.toList_zipIdx]
    rw [show (List.toArray c).zipIdx.foldl (fun cs (x : Value × Nat) => match x with | (c, j) => cs.setIfInBounds (i * sz + j) c) (List.toArray (pre ++ post)) = ⟨(pre ++ c) ++ post.drop sz⟩ from hf]
    have := fill_lit css (i + 1) ps' (pre ++ c) (post.drop sz) h4 (fun c hc' => hc c (List.mem_cons_of_mem _ hc')) (by rw [List.length_append, h2, hcl, Nat.succ_mul]) (by simp [hpl])
    rw [this]; simp

def RepsL {α : Type} (k : Kd α) (H : Hp) : List (List Value) → List α → Prop
  | [], [] => True
  | c :: cs, x :: xs => k.rep H c x ∧ RepsL k H cs xs
  | _, _ => False
theorem RepsL.reps {α : Type} {k : Kd α} {H : Hp} : ∀ {css : List (List Value)} {xs : List α}, RepsL k H css xs → Reps k H css.flatten xs ∧ (∀ c ∈ css, c.length = k.sz) ∧ css.length = xs.length
  | [], [], _ => ⟨rfl, by simp, rfl⟩
  | c :: cs, x :: xs, ⟨h1, h2⟩ => by
    obtain ⟨h3, h4, h5⟩ := RepsL.reps h2
    refine ⟨⟨c, cs.flatten, rfl, h1, h3⟩, fun y hy => ?_, by simp [h5]⟩
    rcases List.mem_cons.1 hy with rfl | hy
    · exact k.len h1
    · exact h4 y hy
theorem o_buildSlice {α : Type} {kd : Kd α} {t e : TypeId} {m : Nat} {ps : Array (Nat × Operand)} {z : Value} {i : TypeInfo} {css : List (List Value)} {xs : List α} {parts : List (Nat × Value)} (ht : P.underlying t = some (.slice e)) (hi : P.info? e = some i) (hsz : i.size = kd.sz) (hz : i.zero = some z) (hp : ps.toList.map (fun p => (p.1, ev n σ p.2)) = parts) (hl : litOf kd.sz 0 css parts) (hr : RepsL kd H css xs) (hm : css.length = m) (h24 : m * kd.sz ≤ 16777216) :
    OpA P n σ H L (.buildSlice t m ps) (fun v' H' L' => ∃ it, H = H' ∧ L' = it :: L ∧ Sl kd H e it v' xs) := fun o ho => opr_run fun w hw => by
  obtain ⟨h1, h2, h3⟩ := hr.reps
  have hparts : (ps.map fun x => match x with | (i, x) => (i, ev n σ x)).toList = parts := by rw [← hp]; simp
  have hfill : ∀ cells : Array Value, cells.size = m * kd.sz → Instr.fill (fun i => some (i * kd.sz, kd.sz)) cells parts = some ⟨css.flatten⟩ := fun cells hc => by
    have := fill_lit css 0 parts [] cells.toList hl h2 (by simp) (by rw [Array.length_toList, hc, hm])
    simpa using this
  have h24' : ¬ (16777216 < m * kd.sz) := by omega
  refine ⟨.slice (some ⟨w.heap.size, 0, none⟩) m m, { w with heap := w.heap.push (.cells ⟨css.flatten⟩ e (0, 0)) }, H, _, .inl ?_, hw.alloc _, _, rfl, rfl, .inr ⟨_, 0, _, m, rfl, by rw [← h3, hm], by omega, ?_, ?_⟩⟩
  · unfold execOp; rw [ho]
    by_cases h0 : m * kd.sz = 0
    · have := hfill ((Array.range 0).map ((#[] : Array Value)[· % (#[] : Array Value).size]!)) (by simp [h0])
      simp [Instr.buildSlice, run_underlying ht, sizeOf, typeInfo, hi, hsz, h0, h24']
      simp at this
      rw [hp, this]; rfl
    · have := hfill ((Array.range (m * kd.sz)).map (z.cells[· % z.cells.size]!)) (by simp)
      simp [Instr.buildSlice, run_underlying ht, sizeOf, typeInfo, hi, hsz, h0, h24', zeroValue, hz]
      rw [hp, this]; rfl
  · have := h1.len; show _ ≤ css.flatten.length; rw [this, ← h3, hm, Nat.zero_add]; exact Nat.le_refl _
  · have := h1.len
    rw [List.drop_zero, show (List.toArray css.flatten).toList = css.flatten from rfl, List.take_of_length_le (by rw [this]; exact Nat.le_refl _)]; exact h1
/-! ### calls and results -/
structure CallOk (P : Program) (g : FuncId) : Prop where
  ok : ∃ fn, P.funcs[g]? = some fn ∧ (fn.name == "runtime.NumGoroutine") = false ∧ fn.body.isNone = false
theorem run_enter {g : FuncId} (hg : CallOk P g) {oas : Array Operand} {ats : Array TypeId} {vs : List Value} (ha : oas.toList.map (ev n σ) = vs) (o : Oper) (ho : o.op = .call { callee := .value (.func g), args := oas, argTypes := ats }) (w : World) : (execOp (ev n σ) o).run P w = .ok (.enter g ⟨vs⟩) w := by
  obtain ⟨fn, h1, h2, h3⟩ := hg.ok
  unfold execOp; rw [ho]
  have : oas.map (ev n σ) = ⟨vs⟩ := by apply Array.ext'; simp [← ha]
  have h2' : ¬ fn.name = "runtime.NumGoroutine" := by simpa using h2
  have h3' : ¬ fn.body = none := fun e => by rw [e] at h3; cases h3
  simp [resolve, ev, Deferred.ofValue, invoke, callFunc, h1, h2', h3', this]
theorem o_call {g : FuncId} (hg : CallOk P g) {oas : Array Operand} {ats : Array TypeId} {vs : List Value} {Ψ} (ha : oas.toList.map (ev n σ) = vs) (h : Ct P g ⟨vs⟩ H L Ψ) : OpA P n σ H L (.call { callee := .value (.func g), args := oas, argTypes := ats }) Ψ :=
  fun o ho => opr_call (fun w _ => run_enter hg ha o ho w) h
/-- A call of a function that a slot holds. -/
theorem run_enterv {g : FuncId} {x : Operand} (hx : ev n σ x = .func (.func g) #[] #[]) (hg : CallOk P g) {oas : Array Operand} {ats : Array TypeId} {vs : List Value} (ha : oas.toList.map (ev n σ) = vs) (o : Oper) (ho : o.op = .call { callee := .value x, args := oas, argTypes := ats }) (w : World) : (execOp (ev n σ) o).run P w = .ok (.enter g ⟨vs⟩) w := by
  obtain ⟨fn, h1, h2, h3⟩ := hg.ok
  unfold execOp; rw [ho]
  have : oas.map (ev n σ) = ⟨vs⟩ := by apply Array.ext'; simp [← ha]
  have h2' : ¬ fn.name = "runtime.NumGoroutine" := by simpa using h2
  have h3' : ¬ fn.body = none := fun e => by rw [e] at h3; cases h3
  simp [resolve, hx, Deferred.ofValue, invoke, callFunc, h1, h2', h3', this]
theorem o_callv {g : FuncId} {x : Operand} (hx : ev n σ x = .func (.func g) #[] #[]) (hg : CallOk P g) {oas : Array Operand} {ats : Array TypeId} {vs : List Value} {Ψ} (ha : oas.toList.map (ev n σ) = vs) (h : Ct P g ⟨vs⟩ H L Ψ) : OpA P n σ H L (.call { callee := .value x, args := oas, argTypes := ats }) Ψ :=
  fun o ho => opr_call (fun w _ => run_enterv hx hg ha o ho w) h
inductive Res (P : Program) (n : Nat) (σ : Nat → Value) (H : Hp) (L : Items) : List ResultVar → List Value → Prop
  | nil : Res P n σ H L [] []
  | tmp {t v rs vs} : ev n σ (.tmp t) = v → Res P n σ H L rs vs → Res P n σ H L (.tmp t :: rs) (v :: vs)
  | cell {a t p agg sz cs v rs vs} : ev n σ (.tmp a) = .pointer (some p) → TyA P t agg sz → Nat.beq cs.length sz = true → (agg || Nat.beq sz 1) = true → Lies H L p cs → vof agg cs = v → Res P n σ H L rs vs → Res P n σ H L (.cell a t :: rs) (v :: vs)
theorem Res.box {a t b agg sz cs T fz rs vs v} (ha : ev n σ (.tmp a) = .pointer (some ⟨b, 0, none⟩)) (ht : TyA P t agg sz) (hl : Nat.beq cs.length sz = true) (h1 : (agg || Nat.beq sz 1) = true) (hm : Has L (some (b, .cells ⟨cs⟩ T fz))) (hv : vof agg cs = v) (h : Res P n σ H L rs vs) : Res P n σ H L (.cell a t :: rs) (v :: vs) :=
  .cell ha ht hl h1 (by have := lies_box (H := H) hm 0 cs.length; simpa using this) hv h
def tup : List Value → Value
  | [v] => v
  | vs => .tuple ⟨vs⟩
def resOf (n : Nat) (σ : Nat → Value) : ResultVar → Sem Value
  | .tmp t => pure ((fr n σ).getD t undef)
  | .cell a t => do loadVar t (← asAddr ((fr n σ).getD a undef))
theorem res_run {rs : List ResultVar} {vs : List Value} (h : Res P n σ H L rs vs) {w : World} (hw : Own H w L) : (rs.mapM (resOf n σ) : Sem (List Value)).run P w = .ok vs w := by
  induction h with
  | nil => simp
  | tmp h1 h2 ih =>
    rw [ev, ← fr_getD] at h1
    simp only [List.mapM_cons, resOf, Sem.run_bind, Sem.run_pure, Result.andThen_ok, ih, h1]
  | @cell a t p agg sz cs v rs vs h1 h2 h3 h4 h5 h6 h7 ih =>
    rw [ev, ← fr_getD] at h1
    have := run_loadVar (P := P) h2 (Nat.eq_of_beq_eq_true h3) (fun e => by rw [e] at h4; exact Nat.eq_of_beq_eq_true h4) (h5 w hw)
    simp only [List.mapM_cons, resOf, Sem.run_bind, h1, asAddr, Sem.run_pure, Result.andThen_ok, this, h6, ih]
theorem res_results {fn : Func} {rs : List ResultVar} {vs : List Value} (hr : fn.results = ⟨rs⟩) (h : Res P n σ H L rs vs) {w : World} (hw : Own H w L) : (results fn (fr n σ)).run P w = .ok (tup vs) w := by
  have := res_run h hw
  have e : results fn (fr n σ) = (do let vs ← fn.results.mapM (resOf n σ); pure (if h : vs.size = 1 then vs[0] else .tuple vs)) := by
    unfold results; congr 1
  rw [e, hr, Array.mapM_eq_mapM_toList]
  simp only [Sem.run_bind, Sem.run_map, this]
  simp only [Result.andThen_ok, Sem.run_pure]
  congr 1
  match vs with
  | [] => rfl
  | [v] => rfl
  | v :: u :: vs => simp [tup]
theorem w_return {fn : Func} {rs : List ResultVar} {vs : List Value} (hf : P.funcs[f.fn]? = some fn) (hr : fn.results = ⟨rs⟩) (h : Res P n σ H L rs vs) (hR : R (tup vs) H L) (h0 : f.ro = none := by rfl) (h1 : f.df = [] := by rfl) : Wp P f n (.code .ret :: k) σ H L R := w_ret hf (fun w hw => res_results hr h hw) hR h0 h1
/-! ### comparisons -/
theorem run_eqn {t T : TypeId} {ms} (ht : P.underlying t = some (.interface ms)) (e : Option Int) (w : World) : (Op.equal t (errV T e) .nilIface).run P w = .ok e.isNone w := by
  show (Op.equalIn (9999 + 1) t (errV T e) .nilIface).run P w = _
  cases e <;> (rw [Op.equalIn]; simp [errV, run_underlying ht])
theorem run_eqg {op : BinOp} {t T : TypeId} {x : Operand} (e : Option Int) (w : World) : (eqGuard op t x (.const .nilIface) (errV T e) .nilIface).run P w = .ok () w := by
  cases op <;> cases e <;> simp [eqGuard, errV]
theorem d_eqnil {t ty : TypeId} {x : Operand} {T : TypeId} {e : Option Int} {ms} (ht : P.underlying t = some (.interface ms)) (hx : ev n σ x = errV T e) : OpA P n σ H L (.binOp .eql t x (.const .nilIface) ty) (Is (.bool e.isNone) H L) := opA_any fun o ho w => by
  unfold execOp; rw [ho]; have h1 := run_eqn (T := T) ht e w; have h2 := run_eqg (P := P) (op := .eql) (t := t) (T := T) (x := x) e w; have h3 : binOp .eql t (errV T e) .nilIface = (do pure (.bool (← Op.equal t (errV T e) .nilIface)) : Sem Value) := by cases e <;> rfl
  simp only [Sem.run_bind, hx, show ev n σ (.const .nilIface) = .nilIface from rfl, h1, h2, h3, Result.andThen_ok, Sem.run_pure]
theorem d_nenil {t ty : TypeId} {x : Operand} {T : TypeId} {e : Option Int} {ms} (ht : P.underlying t = some (.interface ms)) (hx : ev n σ x = errV T e) : OpA P n σ H L (.binOp .neq t x (.const .nilIface) ty) (Is (.bool e.isSome) H L) := opA_any fun o ho w => by
  unfold execOp; rw [ho]; have h1 := run_eqn (T := T) ht e w; have h2 := run_eqg (P := P) (op := .neq) (t := t) (T := T) (x := x) e w; have h3 : binOp .neq t (errV T e) .nilIface = (do pure (.bool (!(← Op.equal t (errV T e) .nilIface))) : Sem Value) := by cases e <;> rfl
  simp only [Sem.run_bind, hx, show ev n σ (.const .nilIface) = .nilIface from rfl, h1, h2, h3, Result.andThen_ok, Sem.run_pure]
  cases e <;> rfl
instance : DecidableEq ByteArray := inferInstance
def bt (s : ByteArray) (i : Int) : Int := ((s.data.toList.getD i.toNat 0).toNat : Int)
theorem d_bt {t : TypeId} {x y : Operand} {s : ByteArray} {K : IntKind} {i : Int} (ht : P.underlying t = some .string) (hx : ev n σ x = .string s) (hy : ev n σ y = .int K i) (hi : 0 ≤ i ∧ i < (s.size : Int)) : OpA P n σ H L (.index t x y) (Is (.int .u8 (bt s i)) H L) := opA_any fun o ho w => by
  have hlt : i.toNat < s.size := by omega
  have : s[i.toNat]? = some s[i.toNat] := getElem?_pos s i.toNat hlt
  have e : s.data.toList.getD i.toNat 0 = s[i.toNat] := by
    rw [List.getD_eq_getElem?_getD, List.getElem?_eq_getElem (by simpa using hlt)]; rfl
  unfold execOp; rw [ho]; simp only [bt, e]; simp [hx, hy, Instr.index, asIntOf, run_underlying ht, hi.1, this]
theorem d_min {x y : Operand} {K K' : IntKind} {a b : Int} {ats : Array TypeId} (hx : ev n σ x = .int K a) (hy : ev n σ y = .int K' b) : OpA P n σ H L (.call { callee := .builtin .min, args := #[x, y], argTypes := ats }) (Is (.int K (min a b)) H L) := opA_any fun o ho w => by
  have : (if b < a then b else a) = min a b := by omega
  unfold execOp; rw [ho]; rw [← this]; simp [hx, hy, resolve, invoke, builtin, Builtin.min_, Builtin.min2]
/-! ### structs compared -/
end
end Go.Proofs.YtjhpkkhcgpilfaaDoorK

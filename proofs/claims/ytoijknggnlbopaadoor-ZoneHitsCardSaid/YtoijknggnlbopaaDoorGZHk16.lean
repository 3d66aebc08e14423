/- A range over a function: the loop's record, its rounds, the mark among the deferred calls. -/
import Derived.Test.YtoijknggnlbopaaDoorGZHk15
import Derived.RangeFuncLeaves
namespace Go.Proofs.YtoijknggnlbopaaDoorK
open Go Go.RowKit
set_option linter.unusedVariables false
set_option linter.unusedSimpArgs false
def lpO (g : FuncId) (t : Array Value) (ps : Array Tmp) (as_ bd : Code) (r : Nat) (b : Bool) : Obj := .loop { state := if b then .done else .ready, pending := if b then some .ret else none, fn := g, tmps := t, params := ps, assign := as_, body := bd, defers := r }
def lpB (g : FuncId) (t : Array Value) (ps : Array Tmp) (as_ bd : Code) (r : Nat) : Obj := .loop { state := .busy, pending := none, fn := g, tmps := t, params := ps, assign := as_, body := bd, defers := r }
def isRow : Obj → Bool
  | .cells .. => true
  | _ => false
theorem run_getObj {P : Program} {w : World} {b : Nat} {o : Obj} (h : w.heap[b]? = some o) (hn : isRow o = false := by rfl) : (getObj b).run P w = .ok o w := by
  simp only [getObj, Sem.run, h]
  cases o <;> first | rfl | cases hn
theorem run_setObj {P : Program} {w : World} {b : Nat} {o o' : Obj} (h : w.heap[b]? = some o) (hn : isRow o = false := by rfl) : (setObj b o').run P w = .ok () { w with heap := w.heap.setIfInBounds b o' } := by
  simp only [setObj, Sem.run, h]
  cases o <;> first | rfl | cases hn
theorem errV_one (T : TypeId) (e : Option Int) : (errV T e).oneCell' = true := by cases e <;> rfl
def mark (r : Nat) : Deferred := { target := .collected r, args := #[] }
section
variable {P : Program} {f : FB} {n : Nat} {k : List Item} {σ : Nat → Value} {H : Hp} {L : Items} {R : Value → Hp → Items → Prop}
theorem put_at {w : World} {b : Nat} {o o' : Obj} {L'} (h : Own H w L) (u : Upd L (some (b, o)) (some (b, o')) L') : Own H { w with heap := w.heap.setIfInBounds b o' } L' := by
  have hb := (h.has u.has).2
  have hlt : b < w.heap.size := (Array.getElem?_eq_some_iff.1 hb).1
  exact h.put u rfl rfl rfl (by simp [hlt]) fun c _ hc => by simp [Ne.symm hc]
theorem w_returnm {fn : Func} {rs : List ResultVar} {vs : List Value} {r : Nat} {L' : Items} (hf : P.funcs[f.fn]? = some fn) (hr : fn.results = ⟨rs⟩) (u : Upd L (some (r, .deferred (some []))) none L') (h : Res P n σ H L' rs vs) (hR : R (tup vs) H L') (h0 : f.ro = none := by rfl) (h1 : f.df = [mark r] := by rfl) : Wp P f n (.code .ret :: k) σ H L R := by
  intro w o cs
  have hb := (o.has u.has).2
  obtain ⟨L1, u1, u2⟩ : ∃ L1, Upd L (some (r, .deferred (some []))) (some (r, .deferred none)) L1 ∧ Upd L1 (some (r, .deferred none)) none L' := by
    clear h hR o hb
    generalize ha : (some (r, Obj.deferred (some [])) : Item') = a at u
    generalize hz : (none : Item') = z at u
    induction u with
    | here => subst hz; exact ⟨_, .here, .here⟩
    | there _ ih => obtain ⟨L1, a, b⟩ := ih ha hz; exact ⟨_, .there a, .there b⟩
  have o1 := put_at o u1
  have o2 := o1.drop u2
  have ht : (Instr.takeDeferred r).run P w = .ok [] { w with heap := w.heap.setIfInBounds r (.deferred none) } := by
    simp [Instr.takeDeferred, run_getObj hb, run_setObj hb]
  refine ⟨_, _, H, L', lone { St f (.code .ret :: k) (fr n σ) with mode := .returning, defers := [] } cs { w with heap := w.heap.setIfInBounds r (.deferred none) }, .head (m₁ := lone { St f (.code .ret :: k) (fr n σ) with mode := .returning } cs w) (by rw [St_at]; exact stepR_ret h0) (.one ?_), ⟨fun _ => ⟨_, rfl, rfl, ⟨rfl, rfl, rfl, fn, hf, res_results hr h o2⟩⟩, fun l e => by rw [h0] at e; cases e⟩, o2, hR⟩
  exact step_collected (fr := { St f (.code .ret :: k) (fr n σ) with mode := .returning }) (d := mark r) (ds := []) (by simp) h1 rfl ht
variable {g : FuncId} {t : Array Value} {ps : Array Tmp} {as_ bd : Code} {r l : Nat}
theorem w_begin {df : List Deferred} {L'} (u : Upd L (some (l, lpO g t ps as_ bd r false)) (some (l, lpB g t ps as_ bd r)) L') (h : Wp P { fn := g, ro := some l, df := df } n k σ H L' R) : Wp P { fn := g, ro := some l, df := df } n (.beginRound :: k) σ H L R := by
  intro w o cs
  have hb := (o.has u.has).2
  obtain ⟨v, w', H', L', s, a, b⟩ := h _ (put_at o u) cs
  refine ⟨v, w', H', L', s, .head ?_ a, b⟩
  rw [St_at]
  exact stepR_beginRound (l := l) rfl (by simp [Instr.beginRound, Instr.getLoop, run_getObj hb, run_setObj hb, lpO, lpB])
theorem w_rend {L'} (u : Upd L (some (l, lpB g t ps as_ bd r)) (some (l, lpO g t ps as_ bd r false)) L') (hR : R (.bool true) H L') : Wp P { fn := g, ro := some l } n [] σ H L R := by
  intro w o cs
  have hb := (o.has u.has).2
  have he : (Instr.endRound l none).run P w = .ok (.bool true) { w with heap := w.heap.setIfInBounds l (lpO g t ps as_ bd r false) } := by
    simp [Instr.endRound, Instr.getLoop, run_getObj hb, run_setObj hb, lpO, lpB]
  cases cs with
  | nil => exact ⟨_, _, H, L', _, .refl _ _, ⟨fun e => by simp at e, fun _ _ c cs' e => by cases e⟩, put_at o u, hR⟩
  | cons c cs => exact ⟨_, _, H, L', _, .one (by rw [St_at]; exact stepR_round_end (l := l) rfl rfl he), ⟨fun e => by simp at e, fun _ _ c' cs' e => by cases e; rfl⟩, put_at o u, hR⟩
theorem w_rret {L'} (u : Upd L (some (l, lpB g t ps as_ bd r)) (some (l, lpO g t ps as_ bd r true)) L') (hR : R (.bool false) H L') : Wp P { fn := g, ro := some l } n (.code .ret :: k) σ H L R := by
  intro w o cs
  have hb := (o.has u.has).2
  have he : (Instr.endRound l (some .ret)).run P w = .ok (.bool false) { w with heap := w.heap.setIfInBounds l (lpO g t ps as_ bd r true) } := by
    simp [Instr.endRound, Instr.getLoop, run_getObj hb, run_setObj hb, lpO, lpB]
  cases cs with
  | nil => exact ⟨_, _, H, L', _, .refl _ _, ⟨fun e => by simp at e, fun _ _ c cs' e => by cases e⟩, put_at o u, hR⟩
  | cons c cs => exact ⟨_, _, H, L', _, .one (by rw [St_at]; exact stepR_round_ret (l := l) rfl rfl he), ⟨fun e => by simp at e, fun _ _ c' cs' e => by cases e; rfl⟩, put_at o u, hR⟩
theorem o_yield {x : Operand} {σ' : Nat → Value} {n' p q : Nat} {a b : Value} {oas : Array Operand} {ats : Array TypeId} {Ψ} (hx : ev n σ x = .func (.yield l) #[] #[]) (ha : oas.toList.map (ev n σ) = [a, b]) (hL : Has L (some (l, lpO g (fr n' σ') #[p, q] as_ bd r false))) (h : Wp P { fn := g, ro := some l } n' [.code as_, .beginRound, .code bd] (upd (upd σ' p a) q b) H L Ψ) : OpA P n σ H L (.call { callee := .value x, args := oas, argTypes := ats }) Ψ := by
  intro o ho w hw cs
  have hb := (hw.has hL).2
  have e1 : (execOp (ev n σ) o).run P w = .ok (.round l g (fr n' (upd (upd σ' p a) q b)) as_ bd) w := by
    unfold execOp; rw [ho]
    have : oas.map (ev n σ) = ⟨[a, b]⟩ := by apply Array.ext'; simp [← ha]
    simp only [resolve, hx, Deferred.ofValue, this, Sem.run_bind, Sem.run_pure, Result.andThen_ok]
    simp [invoke, callFunc, Instr.yield, Instr.getLoop, run_getObj hb, lpO, fr_put]
  obtain ⟨v, w', H', L', s, c, d, e, f'⟩ := h w hw cs
  refine ⟨v, w', H', L', e, f', .inr (.inr (.inr ⟨l, g, _, as_, bd, e1, fun c' cs' ec => ?_⟩))⟩
  rw [← d.ro l rfl c' cs' ec]; exact c
theorem w_range {x : Operand} {e : FuncId} {fs : List Value} (h0 : f.ro = none) (h1 : f.df = []) (hx : ev n σ x = .func (.func e) ⟨fs⟩ ⟨[]⟩) (hg : CallOk P e)
    (h : ∀ l r, Ct P e ⟨fs ++ [.func (.yield l) #[] #[]]⟩ H (some (l, lpO f.fn (fr n σ) ps as_ bd r false) :: some (r, .deferred (some [])) :: L) (fun _ H' L' => ∃ b L1, L' = some (l, lpO f.fn (fr n σ) ps as_ bd r b) :: L1 ∧ Wp P { fn := f.fn, df := [mark r] } n ((if b then [.code .ret] else []) ++ k) σ H' L1 R)) :
    Wp P f n (.code (.rangeFunc x ps as_ bd) :: k) σ H L R := by
  intro w o cs
  obtain ⟨fn, g1, g2, g3⟩ := hg.ok
  have g2' : ¬ fn.name = "runtime.NumGoroutine" := by simpa using g2
  have g3' : ¬ fn.body = none := fun e => by rw [e] at g3; cases g3
  have o2 := (o.alloc (.deferred (some []))).alloc (lpO f.fn (fr n σ) ps as_ bd w.heap.size false)
  have he : (Instr.enterLoop f.fn (fr n σ) ps as_ bd none).run P w = .ok ((w.heap.push (.deferred (some []))).size, [mark w.heap.size]) { w with heap := (w.heap.push (.deferred (some []))).push (lpO f.fn (fr n σ) ps as_ bd w.heap.size false) } := by
    rfl
  obtain ⟨v, w', H', L', fr', a, b, c, d, ⟨j, L1, rfl, hW⟩⟩ := h _ _ _ o2 (Frame.atR { (default : Frame) with fn := f.fn, kind := .normal, roundOf := f.ro } { tmps := fr n σ, defers := [mark w.heap.size] ++ f.df } (.inRangeFunc (w.heap.push (.deferred (some []))).size :: k) :: cs)
  have hev : (Act.mk (fr n σ) f.df).eval = ev n σ := by
    have := eval_fr n σ f k; funext c; rw [← this]; cases c <;> rfl
  have hb := (d.has .here).2
  have hend : (Instr.endLoop (w.heap.push (.deferred (some []))).size).run P w' = .ok (if j then some .ret else none) { w' with heap := w'.heap.setIfInBounds (w.heap.push (.deferred (some []))).size (.loop { state := .exhausted, pending := if j then some .ret else none, fn := f.fn, tmps := fr n σ, params := ps, assign := as_, body := bd, defers := w.heap.size }) } := by
    have hg : (Instr.getLoop (w.heap.push (.deferred (some []))).size).run P w' = .ok { state := if j then .done else .ready, pending := if j then some .ret else none, fn := f.fn, tmps := fr n σ, params := ps, assign := as_, body := bd, defers := w.heap.size } w' := by
      simp only [Instr.getLoop, Sem.run_bind, run_getObj hb, lpO, Result.andThen_ok, Sem.run_pure]
    have hs := @run_setObj P w' _ _ (.loop { state := .exhausted, pending := if j then some .ret else none, fn := f.fn, tmps := fr n σ, params := ps, assign := as_, body := bd, defers := w.heap.size }) hb
    cases j <;> simp only [Instr.endLoop, Sem.run_bind, hg, Result.andThen_ok] <;> simp only [Bool.false_eq_true, if_false, if_true, show (LoopState.done == LoopState.busy) = false from rfl, show (LoopState.ready == LoopState.busy) = false from rfl, Sem.run_pure, Result.andThen_ok, Sem.run_bind] <;> (erw [hs rfl]; rfl)
  obtain ⟨v2, w2, H2, L2, s, a2, b2, c2, d2⟩ := hW _ ((put_at (o' := .loop { state := .exhausted, pending := if j then some .ret else none, fn := f.fn, tmps := fr n σ, params := ps, assign := as_, body := bd, defers := w.heap.size }) d .here).tail) cs
  refine ⟨v2, w2, H2, L2, s, ?_, ⟨fun _ => b2.fn rfl, fun l e => by rw [h0] at e; cases e⟩, c2, d2⟩
  rw [St_at]
  refine .head (stepR_rangeFunc (w₁' := { w with heap := (w.heap.push (.deferred (some []))).push (lpO f.fn (fr n σ) ps as_ bd w.heap.size false) }) (l := (w.heap.push (.deferred (some []))).size) (mark := [mark w.heap.size]) (d := { target := .fn (.func e) #[], args := ⟨fs ++ [.func (.yield (w.heap.push (.deferred (some []))).size) #[] #[]]⟩ }) (f := e) (by rw [h0]; exact he) ?_ ?_) (a.trans (.head (step_leave_returned c) ?_))
  · rw [hev]; simp only [resolve, rangeCall, hx, Deferred.ofValue, Sem.run_bind, Sem.run_pure, Result.andThen_ok]; simp [ev]
  · simp [invoke, callFunc, g1, g2', g3']
  · rw [finish_atR_inRangeFunc]
    refine .head (stepR_endRangeFunc hend) ?_
    cases j <;> (rw [St_at] at a2; simpa [h0, h1] using a2)
def rngA : Code → Code | .rangeFunc _ _ a _ => a | c => c
def rngB : Code → Code | .rangeFunc _ _ _ b => b | c => c
theorem has_appl {A B : Items} {x : Item'} (h : Has A x) : Has (A ++ B) x := by
  induction h with
  | here => exact .here
  | there _ ih => exact .there ih
theorem wp_ptr {L0 : Items} {O : Items → Hp → Value → Prop} (h : Wp P f n k σ H L0 (fun v H' L' => ∃ p its_, L' = p ++ (its_ ++ L) ∧ H.le H' ∧ O its_ H' v)) : Wp P f n k σ H L0 (fun v H' L' => ∃ its_, L' = its_ ++ L ∧ H.le H' ∧ O its_ H' v) := by
  intro w hw cs
  obtain ⟨v, w', H', L', s, a, b, d, p, its, rfl, e1, e2⟩ := h w hw cs
  exact ⟨v, w', H', its ++ L, s, a, b, d.unapp, its, rfl, e1, e2⟩
end
end Go.Proofs.YtoijknggnlbopaaDoorK

/- Numbers that are read and turned by sync/atomic, of one goroutine. -/
import Derived.Test.YtjhpkkhcgpilfaaDoorGTOk12
import Derived.Laws.LoneSync
namespace Go.Proofs.YtjhpkkhcgpilfaaDoorK
open Go Go.RowKit
set_option linter.unusedVariables false
set_option linter.unusedSimpArgs false
structure ExtOk (P : Program) (g : FuncId) (e : Array Value → Sem Value) : Prop where
  ok : ∃ fn, P.funcs[g]? = some fn ∧ (fn.name == "runtime.NumGoroutine") = false ∧ fn.body.isNone = true ∧ Extern.findNext fn = none ∧ Extern.find fn = some e
section
variable {P : Program} {f : FB} {n : Nat} {k : List Item} {σ : Nat → Value} {H : Hp} {L : Items} {R : Value → Hp → Items → Prop}
theorem d_aload {g : FuncId} {ats : Array TypeId} {x : Operand} {a : Addr} {z : Int} {K : IntKind} (hg : ExtOk P g (Extern.Atomic.loadT (.int K))) (hx : ev n σ x = .pointer (some a)) (hl : Lies H L a [.int K z]) : OpA P n σ H L (.call { callee := .value (.func g), args := #[x], argTypes := ats }) (Is (.int K z) H L) := opA_det fun o ho w hw => by
  obtain ⟨fn, h1, h2, h3, h4, h5⟩ := hg.ok
  have hc := hl w hw 0 _ rfl
  have := run_call_load (P := P) h1 h2 h3 h4 K h5 (a := a) (x := z) (w := w) hc
  unfold execOp; rw [ho]
  simpa [resolve, Deferred.ofValue, invoke, hx, show ev n σ (.func g) = .func (.func g) #[] #[] from rfl] using this
/-- A slice that is taken over, and handed back. -/
theorem ct_own2 {f : FuncId} {α : Type} {kd : Kd α} {T : TypeId} {args : Array Value} {xs : List α} {L0 : Items} (h : Ct P f args H L0 (fun v H' L' => (∃ p it, L' = p ++ it :: L ∧ Sl kd H' T it v xs) ∧ H.le H')) : Ct P f args H L0 (fun v H' L' => ∃ it, L' = it :: L ∧ H.le H' ∧ Sl kd H' T it v xs) := by
  intro w hw cs
  obtain ⟨v, w', H', L', fr', a, b, c, d, ⟨p, it, rfl, hs⟩, e1⟩ := h w hw cs
  exact ⟨v, w', H', it :: L, fr', a, b, c, d.unapp, it, rfl, e1, hs⟩
theorem ct_att {f : FuncId} {α : Type} {kd : Kd α} {T : TypeId} {args : Array Value} {it : Item'} {ys : List α} {L0 : Items} {F : Item' → Items} (h : Ct P f args H (it :: L0) (fun v H' L' => ∃ it', L' = it' :: L0 ∧ H.le H' ∧ Sl kd H' T it' v ys)) (u : Upd L it none L0) (u' : ∀ it', Upd L0 none it' (F it')) : Ct P f args H L (fun v H' L' => ∃ it', L' = F it' ∧ H.le H' ∧ Sl kd H' T it' v ys) := by
  intro w hw cs
  obtain ⟨v, w', H', L', fr', a, b, c, d, it', rfl, e1, hs⟩ := h w (hw.pull u) cs
  exact ⟨v, w', H', F it', fr', a, b, c, d.put' (u' it'), it', rfl, e1, hs⟩
theorem o_cas_t {op : Op} {c : Int} {L' : Items} (h : OpA P n σ H L op (fun v' H' L'' => v' = .bool (decide (c = c)) ∧ H = H' ∧ L'' = L')) : OpA P n σ H L op (fun v' H' L'' => v' = .bool true ∧ H = H' ∧ L'' = L') := fun o ho => (h o ho).mono fun v H' L' ⟨a, b, c⟩ => ⟨by simpa using a, b, c⟩
theorem o_acas {g : FuncId} {ats : Array TypeId} {x y z : Operand} {b off : Nat} {cs cs' : List Value} {T : TypeId} {c old new : Int} {K : IntKind} {L' : Items} (hg : ExtOk P g (Extern.Atomic.casT (.int K))) (hx : ev n σ x = .pointer (some ⟨b, off, none⟩)) (hy : ev n σ y = .int K old) (hz : ev n σ z = .int K new) (hu : Upd L (some (b, .cells ⟨cs⟩ T (0, 0))) (some (b, .cells ⟨cs'⟩ T (0, 0))) L') (hc : cs[off]? = some (.int K c)) (hs : SetL cs off [.int K (if c = old then new else c)] cs') :
    OpA P n σ H L (.call { callee := .value (.func g), args := #[x, y, z], argTypes := ats }) (fun v' H' L'' => v' = .bool (decide (c = old)) ∧ H = H' ∧ L'' = L') := fun o ho => opr_run fun w hw => by
  obtain ⟨fn, h1, h2, h3, h4, h5⟩ := hg.ok
  have hb := (hw.has hu.has).2
  obtain ⟨e1, e2⟩ := hs.eq
  have hcell : w.cell? ⟨b, off, none⟩ = some (.int K c) := by simpa [World.cell?, hb] using hc
  have hfz : w.frozen? ⟨b, off, none⟩ = false := by simp [World.frozen?, hb]
  have hlt : off < cs.length := by simp at e2; omega
  by_cases h : c = old
  · subst h
    have := run_call_cas_hit (P := P) h1 h2 h3 h4 K h5 (y := new) hcell hfz
    refine ⟨.bool true, w.setCell ⟨b, off, none⟩ (.int K new), H, L', .inl ?_, hw.put hu rfl rfl rfl ?_ (fun q _ hq => ?_), by simp, rfl, rfl⟩
    · unfold execOp; rw [ho]
      simpa [resolve, Deferred.ofValue, invoke, hx, hy, hz, show ev n σ (.func g) = .func (.func g) #[] #[] from rfl] using this
    · rw [if_pos rfl] at e1
      simp only [World.setCell, Array.getElem?_modify, if_true, hb]
      rw [e1]
      show some (Obj.cells ((⟨cs⟩ : Array Value).setIfInBounds off (.int K new)) T (0, 0)) = _
      congr 2
      apply Array.ext'
      simp only [Array.toList_setIfInBounds, List.length_singleton]
      rw [List.set_eq_take_append_cons_drop, if_pos hlt]; simp
    · simp only [World.setCell, Array.getElem?_modify]; rw [if_neg (fun e => hq e.symm)]
  · have := run_call_cas_miss (P := P) h1 h2 h3 h4 K h5 (y := new) hcell hfz h
    have hcs : cs' = cs := by
      rw [if_neg h] at e1
      rw [e1, List.append_assoc]
      have : cs[off]? = some (.int K c) := hc
      rw [List.getElem?_eq_getElem hlt] at this
      have := Option.some.inj this
      conv => rhs; rw [← List.take_append_drop off cs]
      congr 1
      rw [List.drop_eq_getElem_cons hlt, this]; simp
    subst hcs
    refine ⟨.bool false, w, H, L', .inl ?_, hw.put hu rfl rfl rfl hb (fun q _ hq => rfl), by simp [h], rfl, rfl⟩
    unfold execOp; rw [ho]
    simpa [resolve, Deferred.ofValue, invoke, hx, hy, hz, show ev n σ (.func g) = .func (.func g) #[] #[] from rfl] using this
end
end Go.Proofs.YtjhpkkhcgpilfaaDoorK

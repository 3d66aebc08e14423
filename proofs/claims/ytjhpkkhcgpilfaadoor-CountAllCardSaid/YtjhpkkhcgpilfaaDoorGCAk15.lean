/- Maps of the call's own: rows of keys and values, in the order in which they came. -/
import Derived.Test.YtjhpkkhcgpilfaaDoorGCAk14
import Derived.MapKept
namespace Go.Proofs.YtjhpkkhcgpilfaaDoorK
open Go Go.RowKit
set_option linter.unusedVariables false
set_option linter.unusedSimpArgs false
structure Mk (α β : Type) [DecidableEq α] where
  key : α → Value
  val : β → Value
  kk : TypeDesc
  same : ∀ a b, Instr.sameNow kk (key a) (key b) = some (decide (a = b))
  bits : ∀ a, Instr.sameBits 10000 (key a) (key a) = true
  chk : ∀ (P : Program) (em : Bool) (kt : TypeId) (a : α) (w : World), P.underlying kt = some kk → (Instr.checkKey em 10000 kt (key a)).run P w = .ok () w
def mkStr {β : Type} (val : β → Value) : Mk ByteArray β where
  key a := .string a
  val := val
  kk := .string
  same a b := by
    simp only [Instr.sameNow]
    by_cases h : a = b
    · rw [(MapKept.bytes_beq a b).2 h, decide_eq_true h]
    · rw [decide_eq_false h, Bool.eq_false_iff.2 fun z => h ((MapKept.bytes_beq a b).1 z)]
  bits a := (MapKept.bytes_beq a a).2 rfl
  chk P em kt a w h := by rw [show (10000 : Nat) = 9999 + 1 from rfl, Instr.checkKey]; simp [run_underlying h]
def mhas {α β : Type} [DecidableEq α] : List (α × β) → α → Bool
  | [], _ => false
  | p :: r, a => decide (a = p.1) || mhas r a
def mget {α β : Type} [DecidableEq α] : List (α × β) → α → β → β
  | [], _, d => d
  | p :: r, a, d => if a = p.1 then p.2 else mget r a d
def mput {α β : Type} [DecidableEq α] : List (α × β) → α → β → List (α × β)
  | [], a, b => [(a, b)]
  | p :: r, a, b => if a = p.1 then (p.1, b) :: r else p :: mput r a b
section
variable {α β : Type} [DecidableEq α]
def Mp (mk : Mk α β) (H : Hp) (T : TypeId) (it : Item') (v : Value) (m : List (α × β)) : Prop := ∃ b es clock, it = some (b, .map es clock) ∧ v = .map (some b) ∧ es.toList.map (fun e => (e.key, e.val)) = m.map fun p => (mk.key p.1, mk.val p.2)
theorem Mp.mono {mk : Mk α β} {H H' : Hp} {T it v m} (h : Mp mk H T it v m) (_ : H.le H') : Mp mk H' T it v m := h
theorem map_find (mk : Mk α β) (a : α) (d : β) : ∀ (l : List MapEntry) (m : List (α × β)) (i : Nat), l.map (fun e => (e.key, e.val)) = m.map (fun p => (mk.key p.1, mk.val p.2)) →
    (Instr.findNow mk.kk (mk.key a) l i = some none ∧ mget m a d = d ∧ ∀ b, mput m a b = m ++ [(a, b)]) ∨
    ∃ q e, Instr.findNow mk.kk (mk.key a) l i = some (some (i + q, mk.val (mget m a d))) ∧ l[q]? = some e ∧ e.key = mk.key a ∧ ∀ b, (l.modify q (fun e => { e with key := mk.key a, val := mk.val b })).map (fun e => (e.key, e.val)) = (mput m a b).map fun p => (mk.key p.1, mk.val p.2)
  | [], [], i, _ => .inl ⟨rfl, rfl, fun _ => rfl⟩
  | [], _ :: _, _, h => by simp at h
  | _ :: _, [], _, h => by simp at h
  | e :: l, p :: m, i, h => by
    simp only [List.map_cons, List.cons.injEq, Prod.mk.injEq] at h
    obtain ⟨⟨h1, h2⟩, h3⟩ := h
    unfold Instr.findNow
    rw [h1, mk.same]
    by_cases ha : a = p.1
    · refine .inr ⟨0, e, ?_, rfl, by rw [ha]; exact h1, fun b => ?_⟩
      · simp [mget, ha, h2]
      · simp [mput, ha, h3]
    · simp only [decide_eq_false ha, mget, mput, if_neg ha]
      rcases map_find mk a d l m (i + 1) h3 with ⟨g1, g2, g3⟩ | ⟨q, e', g1, g2, g3, g4⟩
      · exact .inl ⟨g1, g2, fun b => by rw [g3 b]; rfl⟩
      · refine .inr ⟨q + 1, e', by rw [g1]; congr 3; omega, by simpa using g2, g3, fun b => ?_⟩
        simp [h1, h2, g4 b]
variable {P : Program} {f : FB} {n : Nat} {k : List Item} {σ : Nat → Value} {H : Hp} {L : Items} {R : Value → Hp → Items → Prop}
theorem o_makeMap {mk : Mk α β} {t : TypeId} : OpA P n σ H L (.makeMap t none) (fun v' H' L' => ∃ it, H = H' ∧ L' = it :: L ∧ Mp mk H t it v' []) :=
  fun o ho => opr_run fun w hw => ⟨_, _, H, _, .inl (by unfold execOp; rw [ho]; simp [Instr.makeMap, newObj]; rfl), hw.alloc (.map #[] 0), _, rfl, rfl, _, _, _, rfl, rfl, rfl⟩
theorem map_has (mk : Mk α β) (a : α) : ∀ (l : List MapEntry) (m : List (α × β)) (i : Nat), l.map (fun e => (e.key, e.val)) = m.map (fun p => (mk.key p.1, mk.val p.2)) →
    (Instr.findNow mk.kk (mk.key a) l i = some none → mhas m a = false) ∧ ∀ x, Instr.findNow mk.kk (mk.key a) l i = some (some x) → mhas m a = true
  | [], [], i, _ => ⟨fun _ => rfl, fun x h => by cases h⟩
  | [], _ :: _, _, h => by simp at h
  | _ :: _, [], _, h => by simp at h
  | e :: l, p :: m, i, h => by
    simp only [List.map_cons, List.cons.injEq, Prod.mk.injEq] at h
    obtain ⟨⟨h1, h2⟩, h3⟩ := h
    unfold Instr.findNow
    rw [h1, mk.same]
    by_cases ha : a = p.1
    · rw [decide_eq_true ha]
      exact ⟨fun h => (by cases h), fun _ _ => (by unfold mhas; rw [decide_eq_true ha]; rfl)⟩
    · rw [decide_eq_false ha]
      have := map_has mk a l m (i + 1) h3
      unfold mhas; rw [decide_eq_false ha, Bool.false_or]; exact this
theorem d_lookup2 {mk : Mk α β} {t kt et T : TypeId} {x y : Operand} {v : Value} {a : α} {d : β} {it : Item'} {m : List (α × β)} (ht : P.underlying t = some (.map kt et)) (hk : P.underlying kt = some mk.kk) (hz : (P.info? et).bind (·.zero) = some (mk.val d)) (hx : ev n σ x = v) (hy : ev n σ y = mk.key a) (hm : Mp mk H T it v m) (hL : Has L it) :
    OpA P n σ H L (.lookup t x y true) (Is (.tuple ⟨[mk.val (mget m a d), .bool (mhas m a)]⟩) H L) := opA_det fun o ho w hw => by
  obtain ⟨b, es, clock, rfl, rfl, he⟩ := hm
  have hb := (hw.has hL).2
  unfold execOp; rw [ho]
  obtain ⟨h1, h2⟩ := map_has mk a es.toList m 0 he
  rcases map_find mk a d es.toList m 0 he with ⟨g1, g2, _⟩ | ⟨q, e, g1, _⟩
  · simp [hx, hy, Instr.lookup, run_underlying ht, MapKept.run_getObj_map hb, mk.chk _ _ _ _ _ hk, Instr.findKey, run_underlying hk, g1, run_zeroValue hz, g2, h1 g1]
  · simp [hx, hy, Instr.lookup, run_underlying ht, MapKept.run_getObj_map hb, mk.chk _ _ _ _ _ hk, Instr.findKey, run_underlying hk, g1, h2 _ g1]
theorem o_mapUpdate {mk : Mk α β} {t kt et T : TypeId} {x y z : Operand} {v : Value} {a : α} {c : β} {it : Item'} {m : List (α × β)} {F : Item' → Items} (ht : P.underlying t = some (.map kt et)) (hk : P.underlying kt = some mk.kk) (hx : ev n σ x = v) (hy : ev n σ y = mk.key a) (hz : ev n σ z = mk.val c) (hm : Mp mk H T it v m) (hu : ∀ it', Upd L it it' (F it')) :
    OpA P n σ H L (.mapUpdate t x y z) (fun v' H' L' => ∃ it', v' = undef ∧ H = H' ∧ L' = F it' ∧ Mp mk H T it' v (mput m a c)) := fun o ho => opr_run fun w hw => by
  obtain ⟨b, es, clock, rfl, rfl, he⟩ := hm
  have hb := (hw.has (hu none).has).2
  have hlt : b < w.heap.size := (Array.getElem?_eq_some_iff.1 hb).1
  have put : ∀ o', Own H { w with heap := w.heap.setIfInBounds b o' } (F (some (b, o'))) := fun o' => hw.put (hu _) rfl rfl rfl (by simp [hlt]) (fun c _ hc => by simp [Ne.symm hc])
  rcases map_find mk a c es.toList m 0 he with ⟨g1, g2, g3⟩ | ⟨q, e, g1, g2, g3, g4⟩
  · refine ⟨undef, _, H, _, .inr ⟨?_, rfl⟩, put (.map (es.push { key := mk.key a, val := mk.val c, born := clock }) (clock + 1)), _, rfl, rfl, rfl, b, _, _, rfl, rfl, ?_⟩
    · unfold execOp; rw [ho]
      simp [hx, hy, hz, Instr.mapUpdate, run_underlying ht, MapKept.run_getObj_map hb, mk.chk _ _ _ _ _ hk, Instr.findKey, run_underlying hk, g1, MapKept.run_setObj_map _ hb]
    · rw [g3 c]; simp [he]
  · have g2' : es[q]? = some e := by simpa using g2
    have kts : (Instr.keyThatStays (mk.key a) (mk.key a)).run P w = .ok (mk.key a) w := by unfold Instr.keyThatStays; rw [mk.bits]; rfl
    refine ⟨undef, _, H, _, .inr ⟨?_, rfl⟩, put (.map (es.modify q fun e => { e with key := mk.key a, val := mk.val c }) clock), _, rfl, rfl, rfl, b, _, _, rfl, rfl, ?_⟩
    · unfold execOp; rw [ho]
      simp [hx, hy, hz, Instr.mapUpdate, run_underlying ht, MapKept.run_getObj_map hb, mk.chk _ _ _ _ _ hk, Instr.findKey, run_underlying hk, g1, g2', g3, kts, MapKept.run_setObj_map _ hb]
    · rw [Array.toList_modify]; exact g4 c
end
/-! ### a field of a field of an element; an element of a constant array -/
section
variable {P : Program} {f : FB} {n : Nat} {k : List Item} {σ : Nat → Value} {H : Hp} {L : Items} {R : Value → Hp → Items → Prop}
end
/-! ### an own slice among a call's results -/
section
variable {P : Program} {f : FuncId} {H : Hp} {L : Items}
end
/-! ### what makes several rows, under a guard, in a drawn region -/
section
variable {P : Program} {n : Nat} {σ : Nat → Value}
end
/-! ### functions with what they have caught; own results in a drawn region -/
section
variable {P : Program} {f : FB} {n : Nat} {k : List Item} {σ : Nat → Value} {H : Hp} {L : Items} {R : Value → Hp → Items → Prop}
theorem d_makeFunc {fn : Fn} {xs ys : Array Operand} {fs cs : List Value} (hx : xs.toList.map (ev n σ) = fs) (hy : ys.toList.map (ev n σ) = cs) : OpA P n σ H L (.makeFunc fn xs ys) (Is (.func fn ⟨fs⟩ ⟨cs⟩) H L) := opA_any fun o ho w => by
  have e1 : xs.map (ev n σ) = ⟨fs⟩ := by apply Array.ext'; simp [← hx]
  have e2 : ys.map (ev n σ) = ⟨cs⟩ := by apply Array.ext'; simp [← hy]
  unfold execOp; rw [ho]; simp [Instr.makeFunc, e1, e2]
end
end Go.Proofs.YtjhpkkhcgpilfaaDoorK

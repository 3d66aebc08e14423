/- The ground of my own walks: what is left of a call, as a list of items, a frame as a function of slots, a heap of which some blocks are known for good and some are owned. -/
import Derived.Test.YtjhpkkhcgpilfaaDoorProg
import Derived.Control
import Derived.Calls
import Derived.AtR
import Derived.Eval
import Derived.KernelRfl
import Derived.WalkKit
import Derived.Below
import Derived.RowKit
namespace Go.Proofs.YtjhpkkhcgpilfaaDoorK
open Go Go.RowKit
set_option linter.unusedVariables false
set_option linter.unusedSimpArgs false

/-! ### frames -/
/-- A frame's own: its function, the loop over a function whose round it is, its deferred calls. -/
structure FB where
  fn : FuncId
  ro : Option Nat := none
  df : List Deferred := []
instance (n : Nat) : OfNat FB n := ⟨{ fn := n }⟩
def St (f : FB) (k : List Item) (t : Array Value) : Frame := { fn := f.fn, tmps := t, todo := k, defers := f.df, mode := .run, kind := .normal, roundOf := f.ro }
def upd (σ : Nat → Value) (d : Nat) (v : Value) : Nat → Value := fun i => cond (Nat.beq i d) v (σ i)
def updo (σ : Nat → Value) (d : Option Nat) (v : Value) : Nat → Value := match d with | some d => upd σ d v | none => σ
def fr (n : Nat) (σ : Nat → Value) : Array Value := Array.ofFn fun i : Fin n => σ i
def ev (n : Nat) (σ : Nat → Value) : Operand → Value
  | .tmp t => cond (Nat.blt t n) (σ t) undef
  | .const v => v
  | .global g => .pointer (some ⟨g, 0, none⟩)
  | .func f => .func (.func f) #[] #[]
theorem fr_get (n : Nat) (σ) (t : Nat) : (fr n σ)[t]? = if t < n then some (σ t) else none := by
  by_cases h : t < n <;> simp [fr, h]
theorem fr_getD (n σ) (t : Nat) : (fr n σ).getD t undef = cond (Nat.blt t n) (σ t) undef := by
  rw [Array.getD_eq_getD_getElem?, fr_get]
  by_cases h : t < n
  · rw [if_pos h, show Nat.blt t n = true from Nat.ble_eq_true_of_le h]; rfl
  · rw [if_neg h, show Nat.blt t n = false from Bool.eq_false_iff.2 fun e => h (Nat.le_of_ble_eq_true e)]; rfl
theorem fr_put (n σ) (d : Nat) (v) : (fr n σ).setIfInBounds d v = fr n (upd σ d v) := by
  apply Array.ext (by simp [fr])
  intro i h1 h2
  have hi : i < n := by simpa [fr] using h2
  rw [Array.getElem_setIfInBounds (by simpa [fr] using hi)]
  simp only [fr, Array.getElem_ofFn, upd]
  by_cases h : d = i
  · subst h; simp
  · have : Nat.beq i d = false := Bool.eq_false_iff.2 fun e => h (Nat.eq_of_beq_eq_true e).symm
    simp [h, this]
theorem eval_fr (n σ) (f k) : (St f k (fr n σ)).eval = ev n σ := by
  funext x; cases x with
  | tmp t => exact fr_getD n σ t
  | _ => rfl
theorem upd_self {σ : Nat → Value} {d : Nat} {v : Value} (h : σ d = v) : upd σ d v = σ := by
  funext i; unfold upd; by_cases e : Nat.beq i d = true
  · rw [e]; have := Nat.eq_of_beq_eq_true e; subst this; exact h.symm
  · simp only [Bool.not_eq_true] at e; rw [e]; rfl
theorem upd_at (σ : Nat → Value) (d : Nat) (v : Value) : upd σ d v d = v := by simp [upd]
theorem upd_ne {σ : Nat → Value} {d i : Nat} {v : Value} (h : i ≠ d) : upd σ d v i = σ i := by
  have : Nat.beq i d = false := Bool.eq_false_iff.2 fun e => h (Nat.eq_of_beq_eq_true e)
  simp [upd, this]
/-! ### the heap -/
/-- What is known for good: blocks, and the streams. -/
structure Hp where
  at_ : Nat → Option Obj
  os : Os
  tape : Nat → Question → Nat
  out : Array (Nat × ByteArray)
structure Hp.le (H H' : Hp) : Prop where
  at_ : ∀ b o, H.at_ b = some o → H'.at_ b = some o
  os : H'.os = H.os
  tape : H'.tape = H.tape
  out : H'.out = H.out
theorem Hp.le.refl (H : Hp) : H.le H := ⟨fun _ _ h => h, rfl, rfl, rfl⟩
theorem Hp.le.trans {A B C : Hp} (h : A.le B) (k : B.le C) : A.le C := ⟨fun b o x => k.at_ b o (h.at_ b o x), k.os.trans h.os, k.tape.trans h.tape, k.out.trans h.out⟩
abbrev Item' := Option (Nat × Obj)
abbrev Items := List Item'
def keys : Items → List Nat
  | [] => []
  | none :: l => keys l
  | some (b, _) :: l => b :: keys l
def Held (H : Hp) (w : World) : Items → Prop
  | [] => True
  | none :: l => Held H w l
  | some (b, o) :: l => (H.at_ b = none ∧ w.heap[b]? = some o ∧ b ∉ keys l) ∧ Held H w l
structure Own (H : Hp) (w : World) (L : Items) : Prop where
  os : w.os = H.os
  tape : w.tape = H.tape
  out : w.output = H.out
  good : ∀ b o, H.at_ b = some o → w.heap[b]? = some o
  held : Held H w L
theorem keys_lt {H w} : ∀ {L : Items}, Held H w L → ∀ b ∈ keys L, b < w.heap.size
  | [], _, b, h => by cases h
  | none :: l, h, b, hb => keys_lt (L := l) h b hb
  | some (c, o) :: l, h, b, hb => by
    rcases List.mem_cons.1 hb with rfl | hb
    · rcases Nat.lt_or_ge b w.heap.size with h1 | h1
      · exact h1
      · have := h.1.2.1; rw [Array.getElem?_eq_none h1] at this; cases this
    · exact keys_lt (L := l) h.2 b hb
theorem good_lt {H : Hp} {w L} (h : Own H w L) {b o} (hb : H.at_ b = some o) : b < w.heap.size := by
  rcases Nat.lt_or_ge b w.heap.size with h1 | h1
  · exact h1
  · have := h.good b o hb; rw [Array.getElem?_eq_none h1] at this; cases this
/-- it stands in L; it' in its place in L'. -/
inductive Upd : Items → Item' → Item' → Items → Prop
  | here {l a b} : Upd (a :: l) a b (b :: l)
  | there {l a b l' c} : Upd l a b l' → Upd (c :: l) a b (c :: l')
inductive Has : Items → Item' → Prop
  | here {l a} : Has (a :: l) a
  | there {l a c} : Has l a → Has (c :: l) a
theorem Upd.has {L a b L'} (h : Upd L a b L') : Has L a := by induction h with | here => exact .here | there _ ih => exact .there ih
theorem held_has {H w} : ∀ {L : Items} {b o}, Held H w L → Has L (some (b, o)) → H.at_ b = none ∧ w.heap[b]? = some o
  | _, b, o, h, .here => ⟨h.1.1, h.1.2.1⟩
  | none :: l, b, o, h, .there m => held_has (L := l) h m
  | some (c, p) :: l, b, o, h, .there m => held_has (L := l) h.2 m
theorem keys_has : ∀ {L : Items} {b o}, Has L (some (b, o)) → b ∈ keys L
  | _, b, o, .here => List.mem_cons_self ..
  | none :: l, b, o, .there m => keys_has (L := l) m
  | some (c, p) :: l, b, o, .there m => List.mem_cons_of_mem _ (keys_has (L := l) m)
theorem Own.has {H w L b o} (h : Own H w L) (m : Has L (some (b, o))) : H.at_ b = none ∧ w.heap[b]? = some o := held_has h.held m
/-- Blocks outside of the keys may turn. -/
theorem held_other {H H' : Hp} {w w' : World} : ∀ {L : Items}, Held H w L → (∀ b ∈ keys L, w'.heap[b]? = w.heap[b]? ∧ H'.at_ b = none) → Held H' w' L
  | [], _, _ => trivial
  | none :: l, h, k => held_other (L := l) h k
  | some (b, o) :: l, h, k => ⟨⟨(k b (List.mem_cons_self ..)).2, (k b (List.mem_cons_self ..)).1.trans h.1.2.1, h.1.2.2⟩, held_other h.2 fun c hc => k c (List.mem_cons_of_mem _ hc)⟩
theorem keys_upd {L a b L'} (h : Upd L a b L') : ∀ c, c ∈ keys L' → c ∈ keys L ∨ ∃ o, b = some (c, o) := by
  induction h with
  | @here l a b =>
    intro c hc
    cases b with
    | none => left; cases a with
      | none => exact hc
      | some a => exact List.mem_cons_of_mem _ hc
    | some b => rcases List.mem_cons.1 hc with rfl | hc
                · exact .inr ⟨_, rfl⟩
                · left; cases a with
                  | none => exact hc
                  | some a => exact List.mem_cons_of_mem _ hc
  | @there l a b l' c' _ ih =>
    intro c hc
    cases c' with
    | none => exact ih c hc
    | some p => rcases List.mem_cons.1 hc with rfl | hc
                · exact .inl (List.mem_cons_self ..)
                · exact (ih c hc).imp (List.mem_cons_of_mem _) id
/-- One item's block is written, or its item dropped, or taken over. -/
theorem held_upd {H H' : Hp} {w w' : World} {b : Nat} {o : Obj} {it' : Item'} {L L'} (h : Held H w L) (u : Upd L (some (b, o)) it' L') (hb : it' = none ∨ ∃ o', it' = some (b, o') ∧ H'.at_ b = none ∧ w'.heap[b]? = some o')
    (hw : ∀ c, c ∈ keys L → c ≠ b → w'.heap[c]? = w.heap[c]? ∧ H'.at_ c = none) : Held H' w' L' := by
  generalize ha : some (b, o) = a at u
  induction u with
  | @here l a it' =>
    subst ha
    have hl : Held H' w' l := held_other h.2 fun c hc => hw c (List.mem_cons_of_mem _ hc) (fun e => h.1.2.2 (e ▸ hc))
    rcases hb with rfl | ⟨o', rfl, h1, h2⟩
    · exact hl
    · exact ⟨⟨h1, h2, h.1.2.2⟩, hl⟩
  | @there l a it' l' c u ih =>
    subst ha
    cases c with
    | none => exact ih h hb (fun c hc => hw c hc) rfl
    | some p =>
      have hne : p.1 ≠ b := fun e => h.1.2.2 (e ▸ keys_has u.has)
      have h1 := hw p.1 (List.mem_cons_self ..) hne
      refine ⟨⟨h1.2, h1.1.trans h.1.2.1, fun hc => ?_⟩, ih h.2 hb (fun c hc => hw c (List.mem_cons_of_mem _ hc)) rfl⟩
      rcases keys_upd u _ hc with hc | ⟨o', e⟩
      · exact h.1.2.2 hc
      · rcases hb with rfl | ⟨o'', e', _⟩
        · cases e
        · rw [e'] at e; injection e with e; injection e with e1 e2; exact hne e1.symm

/-! ### worlds -/
theorem held_none {H w} : ∀ {L : Items}, Held H w L → ∀ b ∈ keys L, H.at_ b = none
  | [], _, b, h => by cases h
  | none :: l, h, b, hb => held_none (L := l) h b hb
  | some (c, o) :: l, h, b, hb => by
    rcases List.mem_cons.1 hb with rfl | hb
    · exact h.1.1
    · exact held_none (L := l) h.2 b hb
theorem Own.heap {H w w' L} (h : Own H w L) (ho : w'.os = w.os) (ht : w'.tape = w.tape) (hu : w'.output = w.output) (hh : w'.heap = w.heap) : Own H w' L :=
  ⟨ho.trans h.os, ht.trans h.tape, hu.trans h.out, fun b o e => by rw [hh]; exact h.good b o e, held_other h.held fun b hb => ⟨by rw [hh], held_none h.held b hb⟩⟩
theorem Own.drew {H w L} (h : Own H w L) : Own H { w with drawn := w.drawn + 1 } L := h.heap rfl rfl rfl rfl
theorem Own.alloc {H w L} (h : Own H w L) (o : Obj) : Own H { w with heap := w.heap.push o } (some (w.heap.size, o) :: L) := by
  have hlt : ∀ b, b < w.heap.size → (w.heap.push o)[b]? = w.heap[b]? := fun b hb => by rw [Array.getElem?_push, if_neg (by omega)]
  refine ⟨h.os, h.tape, h.out, fun b p e => (hlt b (good_lt h e)).trans (h.good b p e), ⟨?_, ?_, ?_⟩, ?_⟩
  · cases e : H.at_ w.heap.size with
    | none => rfl
    | some p => exact absurd (good_lt h e) (by omega)
  · simp
  · exact fun hb => by have := keys_lt h.held _ hb; omega
  · exact held_other h.held fun b hb => ⟨hlt b (keys_lt h.held b hb), held_none h.held b hb⟩
theorem Own.drop {H w L it L'} (h : Own H w L) (u : Upd L it none L') : Own H w L' := by
  cases it with
  | some p => exact ⟨h.os, h.tape, h.out, h.good, held_upd h.held u (.inl rfl) fun c hc _ => ⟨rfl, held_none h.held c hc⟩⟩
  | none =>
    have : ∀ {L L' : Items} {it : Item'}, Upd L it none L' → it = none → L' = L := by
      intro L L' it u; generalize hn : (none : Item') = z at u; intro e
      induction u with
      | here => first | rfl | (rw [e, ← hn]; done) | (rw [e]; rfl)
      | there _ ih => rw [ih hn e]
    rw [this u rfl]; exact h
theorem Own.tail {H w it L} (h : Own H w (it :: L)) : Own H w L := by
  cases it with
  | none => exact ⟨h.os, h.tape, h.out, h.good, h.held⟩
  | some p => exact ⟨h.os, h.tape, h.out, h.good, h.held.2⟩
/-- A block of its own is written. -/
theorem Own.put {H w L L'} {b : Nat} {o o' : Obj} (h : Own H w L) (u : Upd L (some (b, o)) (some (b, o')) L') {w' : World} (ho : w'.os = w.os) (ht : w'.tape = w.tape) (hu : w'.output = w.output)
    (hb : w'.heap[b]? = some o') (hc : ∀ c, c < w.heap.size → c ≠ b → w'.heap[c]? = w.heap[c]?) : Own H w' L' := by
  have hm := h.has u.has
  refine ⟨ho.trans h.os, ht.trans h.tape, hu.trans h.out, fun c p e => ?_, held_upd h.held u (.inr ⟨o', rfl, hm.1, hb⟩) fun c hc' hne => ⟨hc c (keys_lt h.held c hc') hne, held_none h.held c hc'⟩⟩
  rw [hc c (good_lt h e) (fun e' => by rw [e', hm.1] at e; cases e)]; exact h.good c p e
/-- A block of its own is known for good from now on. -/
def Hp.add (H : Hp) (b : Nat) (o : Obj) : Hp := { H with at_ := fun c => if c = b then some o else H.at_ c }
theorem Hp.add_le {H : Hp} {b o} (h : H.at_ b = none) : H.le (H.add b o) := ⟨fun c p e => by
  show (if c = b then some o else H.at_ c) = some p
  rw [if_neg (fun e' => by rw [e', h] at e; cases e)]; exact e, rfl, rfl, rfl⟩
theorem Hp.add_at (H : Hp) (b o) : (H.add b o).at_ b = some o := if_pos rfl
theorem Own.freeze {H w L L'} {b : Nat} {o : Obj} (h : Own H w L) (u : Upd L (some (b, o)) none L') : Own (H.add b o) w L' := by
  have hm := h.has u.has
  refine ⟨h.os, h.tape, h.out, fun c p e => ?_, held_upd h.held u (.inl rfl) fun c hc hne => ⟨rfl, (if_neg hne).trans (held_none h.held c hc)⟩⟩
  by_cases hcb : c = b
  · subst hcb; rw [Hp.add_at] at e; cases e; exact hm.2
  · exact h.good c p ((if_neg hcb).symm.trans e)

/-! ### what is left of a call -/
/-- How it is left: a function's frame stands at its leaving; a round's has been left. -/
structure Fin (P : Program) (f : FB) (cs : List Frame) (s : Machine) (v : Value) (w : World) : Prop where
  fn : f.ro = none → ∃ fr', s = lone fr' cs w ∧ fr'.fn = f.fn ∧ fr'.leaving P w (.returned v)
  ro : ∀ l, f.ro = some l → ∀ c cs', cs = c :: cs' → s = lone (c.finish v) cs' w
def Wp (P : Program) (f : FB) (n : Nat) (k : List Item) (σ : Nat → Value) (H : Hp) (L : Items) (R : Value → Hp → Items → Prop) : Prop :=
  ∀ w, Own H w L → ∀ cs, ∃ v w' H' L' s, Steps P (lone (St f k (fr n σ)) cs w) s ∧ Fin P f cs s v w' ∧ Own H' w' L' ∧ R v H' L'
/-- What a call comes to. -/
def Ct (P : Program) (f : FuncId) (args : Array Value) (H : Hp) (L : Items) (R : Value → Hp → Items → Prop) : Prop :=
  ∀ w, Own H w L → ∀ cs, ∃ v w' H' L' fr', Steps P (lone (Frame.enter P f args .normal) cs w) (lone fr' cs w') ∧ fr'.fn = f ∧ fr'.leaving P w' (.returned v) ∧ Own H' w' L' ∧ R v H' L'
theorem Ct.mono {P f args H L R R'} (h : Ct P f args H L R) (hr : ∀ v H' L', R v H' L' → R' v H' L') : Ct P f args H L R' :=
  fun w o cs => let ⟨v, w', H', L', fr', a, b, c, d, e⟩ := h w o cs; ⟨v, w', H', L', fr', a, b, c, d, hr _ _ _ e⟩
theorem Wp.mono {P f n k σ H L R R'} (h : Wp P f n k σ H L R) (hr : ∀ v H' L', R v H' L' → R' v H' L') : Wp P f n k σ H L R' :=
  fun w o cs => let ⟨v, w', H', L', s, a, b, d, e⟩ := h w o cs; ⟨v, w', H', L', s, a, b, d, hr _ _ _ e⟩
/-- To and from the kit's form. -/
theorem Ct.calls {P f args H L R w} (h : Ct P f args H L R) (ho : Own H w L) : Calls P f args w fun e w' => ∃ v H' L', e = .returned v ∧ Own H' w' L' ∧ R v H' L' :=
  fun cs => let ⟨v, w', H', L', fr', a, b, c, d, e⟩ := h w ho cs; ⟨.returned v, w', fr', ⟨v, H', L', rfl, d, e⟩, a, b, c⟩
theorem Ct.of_calls {P f args H L R} (h : ∀ w, Own H w L → Calls P f args w fun e w' => ∃ v H' L', e = .returned v ∧ Own H' w' L' ∧ R v H' L') : Ct P f args H L R := by
  intro w ho cs
  obtain ⟨e, w', fr', ⟨v, H', L', rfl, d, e⟩, a, b, c⟩ := h w ho cs
  exact ⟨v, w', H', L', fr', a, b, c, d, e⟩
section rules
variable {P : Program} {f : FB} {n : Nat} {k : List Item} {σ : Nat → Value} {H : Hp} {L : Items} {R : Value → Hp → Items → Prop}
theorem St_at (f : FB) (k : List Item) (t : Array Value) : St f k t = Frame.atR { (default : Frame) with fn := f.fn, kind := .normal, roundOf := f.ro } { tmps := t, defers := f.df } k := rfl
theorem Wp.step {k' : List Item} (hs : ∀ w cs, step P (lone (St f k (fr n σ)) cs w) = .next (lone (St f k' (fr n σ)) cs w)) (h : Wp P f n k' σ H L R) : Wp P f n k σ H L R :=
  fun w o cs => let ⟨v, w', H', L', fr', a, b⟩ := h w o cs; ⟨v, w', H', L', fr', .head (hs w cs) a, b⟩
theorem w_seq {x y : Code} (h : Wp P f n (.code x :: .code y :: k) σ H L R) : Wp P f n (.code (.seq x y) :: k) σ H L R :=
  h.step fun w cs => by rw [St_at, St_at]; exact stepR_seq
theorem w_skip (h : Wp P f n k σ H L R) : Wp P f n (.code .skip :: k) σ H L R := h.step fun w cs => by rw [St_at, St_at]; exact stepR_skip
theorem w_inBlock {id : Nat} (h : Wp P f n k σ H L R) : Wp P f n (.inBlock id :: k) σ H L R := h.step fun w cs => by rw [St_at, St_at]; exact stepR_inBlock
theorem w_block {id : Nat} {c : Code} (h : Wp P f n (.code c :: .inBlock id :: k) σ H L R) : Wp P f n (.code (.block id c) :: k) σ H L R := h.step fun w cs => by rw [St_at, St_at]; exact stepR_block
theorem w_loop {c : Code} (h : Wp P f n (.code c :: .inLoop c :: k) σ H L R) : Wp P f n (.code (.loop c) :: k) σ H L R := h.step fun w cs => by rw [St_at, St_at]; exact stepR_loop
theorem w_inLoop {c : Code} (h : Wp P f n (.code c :: .inLoop c :: k) σ H L R) : Wp P f n (.inLoop c :: k) σ H L R := h.step fun w cs => by rw [St_at, St_at]; exact stepR_inLoop
theorem w_exit {id : Nat} {k' : List Item} (hk : exitTo id k = some k') (h : Wp P f n k' σ H L R) : Wp P f n (.code (.exit id) :: k) σ H L R :=
  h.step fun w cs => by rw [St_at, St_at]; exact stepR_exit hk
theorem w_cond {c : Operand} {x y : Code} {t : Bool} (hc : ev n σ c = .bool t) (h : Wp P f n (.code (if t then x else y) :: k) σ H L R) : Wp P f n (.code (.cond c x y) :: k) σ H L R :=
  h.step fun w cs => by
    have : (Act.mk (fr n σ) f.df).eval c = .bool t := by
      have := congrFun (eval_fr n σ f k) c; rw [hc] at this; rw [← this]; cases c <;> rfl
    rw [St_at, St_at]; exact stepR_cond this
theorem w_then {c : Operand} {x y : Code} {t : Bool} (hc : ev n σ c = .bool t) (ht : t = true) (h : Wp P f n (.code x :: k) σ H L R) : Wp P f n (.code (.cond c x y) :: k) σ H L R := by
  subst ht; exact w_cond hc h
theorem w_else {c : Operand} {x y : Code} {t : Bool} (hc : ev n σ c = .bool t) (ht : t = false) (h : Wp P f n (.code y :: k) σ H L R) : Wp P f n (.code (.cond c x y) :: k) σ H L R := by
  subst ht; exact w_cond hc h
/-- The end: by 'return', or behind the last statement. -/
theorem w_ret {fn : Func} {v : Value} (hf : P.funcs[f.fn]? = some fn) (hr : ∀ w, Own H w L → (results fn (fr n σ)).run P w = .ok v w) (h : R v H L) (h0 : f.ro = none := by rfl) (h1 : f.df = [] := by rfl) : Wp P f n (.code .ret :: k) σ H L R :=
  fun w o cs => ⟨v, w, H, L, lone { St f (.code .ret :: k) (fr n σ) with mode := .returning } cs w, .one (by rw [St_at]; exact stepR_ret h0), ⟨fun _ => ⟨_, rfl, rfl, ⟨rfl, h1, rfl, fn, hf, hr w o⟩⟩, fun l e => by rw [h0] at e; cases e⟩, o, h⟩
def argF (args : List Value) : Nat → Value := fun i => args.getD i undef
theorem ct_enter {f : FuncId} {fn : Func} {c : Code} {args : List Value} (hf : P.funcs[f]? = some fn) (hb : fn.body = some c) (hn : fn.ntmps = n) (hle : Nat.ble args.length n = true) (h : Wp P { fn := f } n [.code c] (argF args) H L R) : Ct P f args.toArray H L R := by
  have e : Frame.enter P f args.toArray .normal = St { fn := f } [.code c] (fr n (argF args)) := by
    have hle := Nat.le_of_ble_eq_true hle
    have : args.toArray ++ Array.replicate (n - args.toArray.size) undef = fr n (argF args) := by
      apply Array.ext (by simp [fr]; omega)
      intro i h1 h2
      have hi : i < n := by simpa [fr] using h2
      simp only [fr, Array.getElem_ofFn, argF, Array.getElem_append]
      split
      · rename_i h; simp at h; simp [h]
      · rename_i h; simp at h; simp [h]
    simp only [Frame.enter, St, hf, Option.map_some, Option.getD_some, hn, Option.bind_some, hb, this]
  intro w o cs; rw [e]
  obtain ⟨v, w', H', L', s, a, b, d, x⟩ := h w o cs
  obtain ⟨fr', rfl, b1, b2⟩ := b.fn rfl
  exact ⟨v, w', H', L', fr', a, b1, b2, d, x⟩
/-- One operation of a region, by what its operands are. -/
def OpR (P : Program) (ρ : Operand → Value) (H : Hp) (L : Items) (o : Oper) (Ψ : Value → Hp → Items → Prop) : Prop :=
  ∀ w, Own H w L → ∀ cs : List Frame, ∃ v w' H' L', Own H' w' L' ∧ Ψ v H' L' ∧
    ((execOp ρ o).run P w = .ok (.value v) w' ∨ ((execOp ρ o).run P w = .ok .skip w' ∧ v = undef) ∨
      (∃ g args fr', (execOp ρ o).run P w = .ok (.enter g args) w ∧ Steps P (lone (Frame.enter P g args .normal) cs w) (lone fr' cs w') ∧ fr'.leaving P w' (.returned v)) ∨
      ∃ l g t a0 bd, (execOp ρ o).run P w = .ok (.round l g t a0 bd) w ∧ ∀ c cs', cs = c :: cs' → Steps P (lone (Frame.round l g t a0 bd .normal) cs w) (lone (c.finish v) cs' w'))
theorem OpR.mono {ρ o Ψ Ψ'} (h : OpR P ρ H L o Ψ) (hr : ∀ v H' L', Ψ v H' L' → Ψ' v H' L') : OpR P ρ H L o Ψ' :=
  fun w ho cs => let ⟨v, w', H', L', x, y, z⟩ := h w ho cs; ⟨v, w', H', L', x, hr _ _ _ y, z⟩
theorem opr_run {o : Oper} {ρ} {Ψ} (h : ∀ w, Own H w L → ∃ v w' H' L', ((execOp ρ o).run P w = .ok (.value v) w' ∨ ((execOp ρ o).run P w = .ok .skip w' ∧ v = undef)) ∧ Own H' w' L' ∧ Ψ v H' L') : OpR P ρ H L o Ψ :=
  fun w ho cs => let ⟨v, w', H', L', a, b, c⟩ := h w ho; ⟨v, w', H', L', b, c, a.elim .inl fun x => .inr (.inl x)⟩
theorem opr_call {o : Oper} {ρ} {g : FuncId} {args : Array Value} {Ψ} (hr : ∀ w, Own H w L → (execOp ρ o).run P w = .ok (.enter g args) w) (h : Ct P g args H L Ψ) : OpR P ρ H L o Ψ :=
  fun w ho cs => let ⟨v, w', H', L', fr', a, b, c, d, e⟩ := h w ho cs; ⟨v, w', H', L', d, e, .inr (.inr (.inl ⟨g, args, fr', hr w ho, a, c⟩))⟩
theorem finish_fr {ops : Array Oper} {i : Nat} {o : Oper} {rest : List Nat} {v : Value} (hi : ops[i]? = some o) : (St f (.inRegion ops (i :: rest) :: k) (fr n σ)).finish v = St f (.inRegion ops rest :: k) (fr n (updo σ o.dst v)) := by
  simp only [Frame.finish, St, hi, Option.bind_some]
  cases o.dst <;> simp [updo, fr_put]
theorem sem_at {ro : Option Nat} {ρ : Operand → Value} {o : Oper} {w w' : World} {x : Next} (h : (execOp ρ o).run P w = .ok x w') (hx : ∀ d, x ≠ .defer d) : Oper.semAt ro ρ o = execOp ρ o := by
  refine Oper.semAt_eq ro ρ o fun c hc => ?_
  unfold execOp at h; rw [hc] at h
  simp only [Sem.run_bind] at h
  cases e : (resolve ρ c o.type).run P w with
  | ok d w2 => rw [e] at h; simp at h; exact hx d h.1.symm
  | halt z w2 => rw [e] at h; simp at h
theorem opr_step {o : Oper} {Ψ} (h : OpR P (ev n σ) H L o Ψ) (w) (ho : Own H w L) (ops : Array Oper) (i : Nat) (rest : List Nat) (k : List Item) (cs : List Frame) (hi : ops[i]? = some o) (hw : Region.wanted o (yielded ops (fr n σ)) = true) :
    ∃ v w' H' L', Steps P (lone (St f (.inRegion ops (i :: rest) :: k) (fr n σ)) cs w) (lone (St f (.inRegion ops rest :: k) (fr n (updo σ o.dst v))) cs w') ∧ Own H' w' L' ∧ Ψ v H' L' := by
  obtain ⟨v, w', H', L', h2, h3, hr⟩ := h w ho (St f (.inRegion ops (i :: rest) :: k) (fr n σ) :: cs)
  have he : (Act.mk (fr n σ) f.df).eval = ev n σ := by
    have := eval_fr n σ f k; funext c; rw [← this]; cases c <;> rfl
  refine ⟨v, w', H', L', ?_, h2, h3⟩
  rcases hr with hr | ⟨hr, rfl⟩ | ⟨g, args, fr', hr, a, c⟩ | ⟨l, g, t, a0, bd, hr, a⟩
  · refine .one (step_lone_go ?_)
    rw [St_at, stepGR_op hi hw, ← finish_fr hi, he, sem_at hr (by simp)]
    simp [stepG.apply, hr, St_at]
  · refine .one (step_lone_go ?_)
    rw [St_at, stepGR_op hi hw, ← finish_fr hi, he, sem_at hr (by simp)]
    simp [stepG.apply, hr, St_at]
  · have henter : step P (lone (St f (.inRegion ops (i :: rest) :: k) (fr n σ)) cs w) = .next (lone (Frame.enter P g args .normal) (St f (.inRegion ops (i :: rest) :: k) (fr n σ) :: cs) w) :=
      step_lone_go (by rw [St_at, stepGR_op hi hw, he, sem_at hr (by simp)]; simp [stepG.apply, hr, Frame.atR])
    refine .head henter (a.trans (.one ?_))
    rw [← finish_fr hi]; exact step_leave_returned c
  · have henter : step P (lone (St f (.inRegion ops (i :: rest) :: k) (fr n σ)) cs w) = .next (lone (Frame.round l g t a0 bd .normal) (St f (.inRegion ops (i :: rest) :: k) (fr n σ) :: cs) w) :=
      step_lone_go (by rw [St_at, stepGR_op hi hw, he, sem_at hr (by simp)]; simp [stepG.apply, hr, Frame.atR])
    refine .head henter ?_
    rw [← finish_fr hi]; exact a _ _ rfl
theorem w_op {ops : Array Oper} {i : Nat} {rest : List Nat} {o : Oper} {Ψ} (hi : ops[i]? = some o) (hg : o.guard = none) (h : OpR P (ev n σ) H L o Ψ)
    (hk : ∀ v H' L', Ψ v H' L' → Wp P f n (.inRegion ops rest :: k) (updo σ o.dst v) H' L' R) : Wp P f n (.inRegion ops (i :: rest) :: k) σ H L R := by
  intro w ho cs
  obtain ⟨v, w', H', L', a, b, c⟩ := opr_step h w ho ops i rest k cs hi (by simp [Region.wanted, hg])
  obtain ⟨v2, w2, H2, L2, fr', a2, b2⟩ := hk v H' L' c w' b cs
  exact ⟨v2, w2, H2, L2, fr', a.trans a2, b2⟩
/-- Does a guard's value let the operation be? -/
def wants (v : Value) (want : Bool) : Bool := match v with
  | .bool b => b == want
  | _ => false
/-- A guarded operation: skipped where the guard says so. -/
theorem wanted_eq {ops : Array Oper} {o : Oper} {j d : Nat} {want : Bool} (hg : o.guard = some (j, want)) (hj : (ops[j]?).bind (·.dst) = some d) (hd : Nat.blt d n = true) : Region.wanted o (yielded ops (fr n σ)) = wants (σ d) want := by
  have : (fr n σ)[d]? = some (σ d) := by rw [fr_get, if_pos (show d < n from Nat.le_of_ble_eq_true hd)]
  simp only [Region.wanted, hg, yielded, hj, Option.bind_some, this]
  cases σ d <;> simp [wants]
theorem w_gop {ops : Array Oper} {i : Nat} {rest : List Nat} {o : Oper} {Ψ} {j d : Nat} {want : Bool} (hi : ops[i]? = some o) (hg : o.guard = some (j, want)) (hj : (ops[j]?).bind (·.dst) = some d) (hd : Nat.blt d n = true)
    (h : wants (σ d) want = true → OpR P (ev n σ) H L o Ψ) (hk : ∀ v H' L', (wants (σ d) want = true → Ψ v H' L') → (wants (σ d) want = false → v = undef ∧ H' = H ∧ L' = L) → Wp P f n (.inRegion ops rest :: k) (updo σ o.dst v) H' L' R) : Wp P f n (.inRegion ops (i :: rest) :: k) σ H L R := by
  have hy := wanted_eq (n := n) (σ := σ) hg hj hd
  cases e : wants (σ d) want with
  | true =>
    intro w ho cs
    obtain ⟨v, w', H', L', a, b, c⟩ := opr_step (h e) w ho ops i rest k cs hi (by rw [hy, e])
    obtain ⟨v2, w2, H2, L2, fr', a2, b2⟩ := hk v H' L' (fun _ => c) (fun x => by rw [e] at x; cases x) w' b cs
    exact ⟨v2, w2, H2, L2, fr', a.trans a2, b2⟩
  | false =>
    intro w ho cs
    obtain ⟨v2, w2, H2, L2, fr', a2, b2⟩ := hk undef H L (fun x => by rw [e] at x; cases x) (fun _ => ⟨rfl, rfl, rfl⟩) w ho cs
    refine ⟨v2, w2, H2, L2, fr', .head ?_ a2, b2⟩
    have hs := @stepR_op_skip P { (default : Frame) with fn := f.fn, kind := .normal, roundOf := f.ro } { tmps := fr n σ, defers := f.df } k cs w ops i rest (by rw [hi]; simp only [Option.map_some, Option.getD_some]; rw [hy, e])
    rw [hi] at hs
    simp only [Option.bind_some] at hs
    rw [St_at, hs, St_at]
    have : Act.put { tmps := fr n σ, defers := f.df } o.dst undef = { tmps := fr n (updo σ o.dst undef), defers := f.df } := by
      cases o.dst <;> simp [Act.put, updo, fr_put]
    rw [this]
theorem w_region {id : Nat} {ops : Array Oper} {l : List Nat} (hl : List.range ops.size = l) (h : Wp P f n (.inRegion ops l :: k) σ H L R) : Wp P f n (.code (.region id ops false) :: k) σ H L R := by
  subst hl; exact h.step fun w cs => by rw [St_at, St_at]; exact stepR_region
theorem w_done {ops : Array Oper} (h : Wp P f n k σ H L R) : Wp P f n (.inRegion ops [] :: k) σ H L R :=
  h.step fun w cs => by rw [St_at, St_at]; exact stepR_region_end
end rules
end Go.Proofs.YtjhpkkhcgpilfaaDoorK

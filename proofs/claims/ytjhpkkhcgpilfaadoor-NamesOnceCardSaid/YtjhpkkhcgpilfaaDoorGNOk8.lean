/- Arguments opened: what is read as data reads as a list, a number, a struct; with what is known of each number and length. And a law's end. -/
import Derived.Test.YtjhpkkhcgpilfaaDoorGNOk7
import Derived.OpenShut
import Derived.Deep.Slices
import Derived.ChangeArms
import Derived.SizedLaws
namespace Go.Proofs.YtjhpkkhcgpilfaaDoorK
open Go Go.RowKit Go.ChangeShapes Go.WideShapes Go.Deep
set_option linter.unusedVariables false
set_option linter.unusedSimpArgs false
def snap (W : World) : Hp := ⟨fun b => W.heap[b]?, W.os, W.tape, W.output⟩
theorem own_snap (W : World) : Own (snap W) W [] := ⟨rfl, rfl, rfl, fun _ _ h => h, trivial⟩
theorem below_of {W w' : World} {L : Items} (h : Own (snap W) w' L) : Below W.heap.size W w' := by
  have hb : ∀ k, k < W.heap.size → w'.heap[k]? = W.heap[k]? := fun k hk => by
    have h1 : W.heap[k]? = some W.heap[k] := Array.getElem?_eq_getElem hk
    rw [h1]; exact h.good k _ h1
  refine ⟨h.os, h.tape, h.out, ?_, hb⟩
  rcases Nat.eq_zero_or_pos W.heap.size with h0 | h0
  · omega
  · have := hb (W.heap.size - 1) (by omega)
    rw [Array.getElem?_eq_getElem (show W.heap.size - 1 < W.heap.size by omega)] at this
    have := (Array.getElem?_eq_some_iff.1 this).1
    omega
theorem law_end {P : Program} {f : FuncId} {args : Array Value} {W : World} (h : Ct P f args (snap W) [] (fun v H' L' => [] = L' ∧ snap W = H' ∧ v = .bool true)) : Calls P f args W fun e w' => e = .returned (.bool true) ∧ Below W.heap.size W w' :=
  (h.calls (own_snap W)).mono fun e w' ⟨v, H', L', he, ho, a, b, c⟩ => by subst a; subst b; subst c; exact ⟨he, below_of ho⟩
def Fits (l : List Nat) : Prop := ∀ n ∈ l, n ≤ 140737488351232
theorem Fits.of_all {l : List Nat} (h : l.all (· ≤ reachBytes) = true) : Fits l := fun n hn => by
  have := List.all_eq_true.1 h n hn
  exact of_decide_eq_true this

structure Opn {α : Type} (P : Program) (t : TypeId) (d : Kd α) (V : α → Prop) : Prop where
  sz : P.cellsOf t = d.sz
  op : ∀ {H : Type} {enc : TypeId × Value → H} {W : World} {held : Bool} {fuel : Nat} {cs : List Value} {x : DataW H × List MemPlace}, DataW.trod enc P W 0 (fun _ => true) held fuel t cs = some x → Fits (x.1.weights P t) → ∃ y, d.rep (snap W) cs y ∧ V y

section
variable {P : Program} {t e : TypeId}
theorem Opn.map {α β : Type} {d : Kd α} {V : α → Prop} (h : Opn P t d V) (f : β → α) (g : α → β) (hfg : ∀ y, f (g y) = y) : Opn P t (Kd.map f d) (fun z => V (f z)) :=
  ⟨h.sz, fun hx hw => by
    obtain ⟨y, hk, hv⟩ := h.op hx hw
    exact ⟨g y, by show d.rep _ _ (f (g y)); rw [hfg]; exact hk, by show V (f (g y)); rw [hfg]; exact hv⟩⟩
def OpnF {α : Type} (P : Program) (fs : List (TypeId × Nat)) (off : Nat) (d : Kd α) (V : α → Prop) : Prop :=
  ∀ {H : Type} {enc : TypeId × Value → H} {W : World} {held : Bool} {n : Nat} {cs : List Value} {xs : List (DataW H × List MemPlace)}, xs.length = fs.length →
    (∀ (i : Nat) (f : TypeId × Nat), fs[i]? = some f → DataW.trod enc P W 0 (fun _ => true) held n f.1 ((cs.drop f.2).take (P.cellsOf f.1)) = xs[i]?) →
    (∀ (i : Nat) (f : TypeId × Nat) (x : DataW H × List MemPlace), fs[i]? = some f → xs[i]? = some x → Fits (x.1.weights P f.1)) → off ≤ cs.length → ∃ y, d.rep (snap W) ((cs.drop off).take d.sz) y ∧ V y
theorem OpnF.one {α : Type} {d : Kd α} {V : α → Prop} (h : Opn P e d V) (off : Nat) : OpnF P [(e, off)] off d V := by
  intro H enc W held n cs xs hl ht hw _
  obtain ⟨x, rfl⟩ : ∃ x, xs = [x] := List.length_eq_one_iff.1 hl
  have h1 := ht 0 (e, off) rfl
  rw [h.sz] at h1
  exact h.op h1 (hw 0 (e, off) x rfl rfl)
theorem OpnF.cons {α β : Type} {d0 : Kd α} {d1 : Kd β} {V0 : α → Prop} {V1 : β → Prop} {fs : List (TypeId × Nat)} (h : Opn P e d0 V0) (off : Nat) (hs : OpnF P fs (off + d0.sz) d1 V1) : OpnF P ((e, off) :: fs) off (Kd.pair d0 d1) (fun x => V0 x.1 ∧ V1 x.2) := by
  intro H enc W held n cs xs hl ht hw ho
  obtain ⟨x, xs', rfl⟩ : ∃ x xs', xs = x :: xs' := by
    cases xs with
    | nil => simp at hl
    | cons x xs' => exact ⟨x, xs', rfl⟩
  have h1 := ht 0 (e, off) rfl
  rw [h.sz] at h1
  obtain ⟨y0, hk0, hv0⟩ := h.op h1 (hw 0 (e, off) x rfl rfl)
  have hlen0 := d0.len hk0
  rw [List.length_take, List.length_drop] at hlen0
  obtain ⟨y1, hk1, hv1⟩ := hs (by simpa using hl) (fun i f hf => by simpa using ht (i + 1) f (by simpa using hf)) (fun i f x' hf hx' => hw (i + 1) f x' (by simpa using hf) (by simpa using hx')) (by omega)
  refine ⟨(y0, y1), ⟨_, _, ?_, hk0, hk1⟩, hv0, hv1⟩
  show (cs.drop off).take (d0.sz + d1.sz) = _
  rw [List.take_add, List.drop_drop]
end
section
variable {P : Program} {f : FuncId} {n : Nat} {k : List Item} {σ : Nat → Value} {H : Hp} {L : Items} {R : Value → Hp → Items → Prop}
theorem w_pull {it : Item'} {L' : Items} (u : Upd L it none L') (hk : Wp P f n k σ H (it :: L') R) : Wp P f n k σ H L R := fun w hw => hk w (hw.pull u)
theorem w_put {it : Item'} {L' : Items} (u : Upd L none it L') (hk : Wp P f n k σ H L' R) : Wp P f n k σ H (it :: L) R := fun w hw => hk w (hw.put' u)
theorem ct_ptr {args : Array Value} {L0 : Items} {O : Items → Hp → Value → Prop} (h : Ct P f args H L0 (fun v H' L' => ∃ p its_, L' = p ++ (its_ ++ L) ∧ H.le H' ∧ O its_ H' v)) : Ct P f args H L0 (fun v H' L' => ∃ its_, L' = its_ ++ L ∧ H.le H' ∧ O its_ H' v) := by
  intro w hw cs
  obtain ⟨v, w', H', L', fr', a, b, c, d, p, its, rfl, e1, e2⟩ := h w hw cs
  exact ⟨v, w', H', its ++ L, fr', a, b, c, d.unapp, its, rfl, e1, e2⟩
end
end Go.Proofs.YtjhpkkhcgpilfaaDoorK

/- Slices: known for good, and the call's own; strings; calls; results. -/
import Derived.Test.YtjhpkkhcgpilfaaDoorGNGk4
import Derived.Laws.Append
namespace Go.Proofs.YtjhpkkhcgpilfaaDoorK
open Go Go.RowKit
set_option linter.unusedVariables false
set_option linter.unusedSimpArgs false
def Ro {α : Type} (k : Kd α) (H : Hp) (v : Value) (xs : List α) : Prop :=
  ∃ A c, v = .slice A xs.length c ∧ xs.length ≤ c ∧ (xs = [] ∨ ∃ a inner, A = some a ∧ Cells H a inner ∧ Reps k H inner xs)
theorem Ro.mono {α : Type} {k : Kd α} {H H' : Hp} {v xs} (h : Ro k H v xs) (hle : H.le H') : Ro k H' v xs := by
  obtain ⟨A, c, h1, h2, h3⟩ := h
  refine ⟨A, c, h1, h2, h3.imp id ?_⟩
  rintro ⟨a, inner, h4, h5, h6⟩
  exact ⟨a, inner, h4, h5.mono hle, h6.mono hle⟩
def Kd.slice {α : Type} (k : Kd α) : Kd (List α) where
  sz := 1
  rep H cs xs := ∃ v, cs = [v] ∧ Ro k H v xs
  len := by rintro H _ xs ⟨v, rfl, _⟩; rfl
  mono := by rintro H H' _ xs hle ⟨v, rfl, h⟩; exact ⟨v, rfl, h.mono hle⟩
  one := by
    rintro H _ xs ⟨v, rfl, A, c, rfl, _⟩ x hx
    rcases List.mem_singleton.1 hx with rfl; rfl
def Sl {α : Type} (k : Kd α) (H : Hp) (T : TypeId) (it : Item') (v : Value) (xs : List α) : Prop :=
  (it = none ∧ v = .slice none 0 0 ∧ xs = []) ∨ ∃ b o arr c, it = some (b, .cells arr T (0, 0)) ∧ v = .slice (some ⟨b, o, none⟩) xs.length c ∧ xs.length ≤ c ∧ o + c * k.sz ≤ arr.size ∧ Reps k H ((arr.toList.drop o).take (xs.length * k.sz)) xs
theorem Sl.mono {α : Type} {k : Kd α} {H H' : Hp} {T it v xs} (h : Sl k H T it v xs) (hle : H.le H') : Sl k H' T it v xs := by
  rcases h with h | ⟨b, o, arr, c, h1, h2, h3, h4, h5⟩
  · exact .inl h
  · exact .inr ⟨b, o, arr, c, h1, h2, h3, h4, h5.mono hle⟩
def Src {α : Type} (k : Kd α) (H : Hp) (L : Items) (v : Value) (xs : List α) : Prop :=
  ∃ A c, v = .slice A xs.length c ∧ xs.length ≤ c ∧ (xs = [] ∨ ∃ a inner, A = some a ∧ a.spot = none ∧ Lies H L a inner ∧ Reps k H inner xs)
section
variable {P : Program} {f : FuncId} {n : Nat} {k : List Item} {σ : Nat → Value} {H : Hp} {L : Items} {R : Value → Hp → Items → Prop}
theorem w_none (hk : Wp P f n k σ H (none :: L) R) : Wp P f n k σ H L R := fun w hw => hk w ⟨hw.os, hw.tape, hw.out, hw.good, hw.held⟩
theorem held_new {H : Hp} {w w' : World} {b' : Nat} {o' : Obj} {it : Item'} {L L'} (u : Upd L it (some (b', o')) L') (h : Held H w L) (hb : b' ∉ keys L) (h1 : H.at_ b' = none) (h2 : w'.heap[b']? = some o') (hc : ∀ c ∈ keys L, w'.heap[c]? = w.heap[c]?) : Held H w' L' := by
  generalize e : some (b', o') = it' at u
  induction u with
  | @here l a it' =>
    subst e
    refine ⟨⟨h1, h2, fun hm => hb ?_⟩, ?_⟩
    · cases a with
      | none => exact hm
      | some a => exact List.mem_cons_of_mem _ hm
    · cases a with
      | none => exact held_other h fun c hm => ⟨hc c hm, held_none h c hm⟩
      | some a => exact held_other h.2 fun c hm => ⟨hc c (List.mem_cons_of_mem _ hm), held_none h.2 c hm⟩
  | @there l a it' l' c u ih =>
    subst e
    cases c with
    | none => exact ih h hb hc rfl
    | some p =>
      have h3 := hc p.1 (List.mem_cons_self ..)
      refine ⟨⟨h.1.1, h3.trans h.1.2.1, fun hm => ?_⟩, ih h.2 (fun hm => hb (List.mem_cons_of_mem _ hm)) (fun c hm => hc c (List.mem_cons_of_mem _ hm)) rfl⟩
      rcases keys_upd u _ hm with hm | ⟨o, e⟩
      · exact h.1.2.2 hm
      · cases e; exact hb (List.mem_cons_self ..)
end
end Go.Proofs.YtjhpkkhcgpilfaaDoorK

/- Drawn regions whose writes stand in one order. -/
import Derived.Test.YtjhpkkhcgpilfaaDoorGTOk11
namespace Go.Proofs.YtjhpkkhcgpilfaaDoorK
open Go Go.RowKit
set_option linter.unusedVariables false
set_option linter.unusedSimpArgs false
/-- The items, when some of the writes have been done: as the last one left them. -/
def chL : List Nat → (Nat → Option Items) → Items → Items
  | [], _, L => L
  | c :: r, m, L => chL r m ((m c).getD L)
def noneAt (m : Nat → Option Items) : List Nat → Prop
  | [] => True
  | q :: r => m q = none ∧ noneAt m r
theorem chL_none : ∀ {post : List Nat} {m : Nat → Option Items} {L : Items}, noneAt m post → chL post m L = L
  | [], m, L, _ => rfl
  | q :: r, m, L, h => by show chL r m ((m q).getD L) = L; rw [h.1]; exact chL_none h.2
theorem chL_at {post : List Nat} {m : Nat → Option Items} {c : Nat} {l : Items} (h : noneAt m post) (hc : m c = some l) : ∀ {pre : List Nat} {L : Items}, chL (pre ++ c :: post) m L = l
  | [], L => by show chL post m ((m c).getD L) = l; rw [hc]; exact chL_none h
  | q :: r, L => by show chL (r ++ c :: post) m _ = l; exact chL_at h hc
theorem noneAt_upd {m : Nat → Option Items} {c : Nat} {x : Option Items} : ∀ {post : List Nat}, post.all (fun q => !Nat.beq q c) = true → noneAt m post → noneAt (updm m c x) post
  | [], _, _ => trivial
  | q :: r, h, hn => by
    simp only [List.all_cons, Bool.and_eq_true, Bool.not_eq_true'] at h
    exact ⟨by unfold updm; rw [h.1]; exact hn.1, noneAt_upd h.2 hn.2⟩
theorem chL_w {pre post : List Nat} {m : Nat → Option Items} {c : Nat} {l L : Items} (hne : post.all (fun q => !Nat.beq q c) = true) (h : noneAt m post) : chL (pre ++ c :: post) (updm m c (some l)) L = l :=
  chL_at (noneAt_upd hne h) (updm_at _ _ _)
structure Fc where
  p : Hp → Value → Option Items → Prop
  mono : ∀ H H' v it, H.le H' → p H v it → p H' v it
def Fc.is (v : Value) : Fc := ⟨fun _ v' it => v = v' ∧ it = none, fun _ _ _ _ _ h => h⟩
def Fc.of (P : Hp → Value → Prop) (hm : ∀ {H H' : Hp} {v : Value}, H.le H' → P H v → P H' v) : Fc := ⟨fun H v it => P H v ∧ it = none, fun _ _ _ _ hle h => ⟨hm hle h.1, h.2⟩⟩
def Fc.ro {α : Type} (k : Kd α) (xs : List α) : Fc := .of (fun H v => Ro k H v xs) fun hle h => h.mono hle
def Fc.ch (P : Hp → Value → Items → Prop) (hm : ∀ {H H' : Hp} {v : Value} {l : Items}, H.le H' → P H v l → P H' v l) : Fc := ⟨fun H v it => ∃ l, it = some l ∧ P H v l, fun _ _ _ _ hle h => let ⟨l, a, b⟩ := h; ⟨l, a, hm hle b⟩⟩
def fcX (ops : Array Oper) (p : Nat) (F : Nat → Hp → Value → Option Items → (Nat → Option Items) → Prop) (i : Nat) (H' : Hp) (m : Nat → Option Items) : Prop :=
  (∀ q, anc ops ops.size q i = true → q < ops.size → m q = none) ∧ (∀ j, anc ops ops.size i j = true → j < p → ∃ v, F j H' v (m j) m) ∧ ∀ j, j < p → m j = none ∨ ∃ v, F j H' v (m j) m
section
variable {P : Program} {f : FB} {n : Nat} {k : List Item} {σ : Nat → Value} {H : Hp} {R : Value → Hp → Items → Prop}
variable {L : Items}
theorem ct_pull {f : FuncId} {args : Array Value} {it : Item'} {L' : Items} (u : Upd L it none L') (h : Ct P f args H (it :: L') R) : Ct P f args H L R := fun w hw => h w (hw.pull u)
end
end Go.Proofs.YtjhpkkhcgpilfaaDoorK

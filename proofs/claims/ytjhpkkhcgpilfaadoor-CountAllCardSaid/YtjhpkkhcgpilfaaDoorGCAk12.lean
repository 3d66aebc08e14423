/- Drawn regions whose writes stand in one order. -/
import Derived.Test.YtjhpkkhcgpilfaaDoorGCAk11
namespace Go.Proofs.YtjhpkkhcgpilfaaDoorK
open Go Go.RowKit
set_option linter.unusedVariables false
set_option linter.unusedSimpArgs false
/-- The items, when some of the writes have been done: as the last one left them. -/
def chL : List Nat → (Nat → Option Items) → Items → Items
  | [], _, L => L
  | c :: r, m, L => chL r m ((m c).getD L)
def noneAt (m : Nat → Option Items) : List Nat → Prop
  | [] => True
  | q :: r => m q = none ∧ noneAt m r
theorem chL_none : ∀ {post : List Nat} {m : Nat → Option Items} {L : Items}, noneAt m post → chL post m L = L
  | [], m, L, _ => rfl
  | q :: r, m, L, h => by show chL r m ((m q).getD L) = L; rw [h.1]; exact chL_none h.2
theorem chL_at {post : List Nat} {m : Nat → Option Items} {c : Nat} {l : Items} (h : noneAt m post) (hc : m c = some l) : ∀ {pre : List Nat} {L : Items}, chL (pre ++ c :: post) m L = l
  | [], L => by show chL post m ((m c).getD L) = l; rw [hc]; exact chL_none h
  | q :: r, L => by show chL (r ++ c :: post) m _ = l; exact chL_at h hc
theorem noneAt_upd {m : Nat → Option Items} {c : Nat} {x : Option Items} : ∀ {post : List Nat}, post.all (fun q => !Nat.beq q c) = true → noneAt m post → noneAt (updm m c x) post
  | [], _, _ => trivial
  | q :: r, h, hn => by
    simp only [List.all_cons, Bool.and_eq_true, Bool.not_eq_true'] at h
    exact ⟨by unfold updm; rw [h.1]; exact hn.1, noneAt_upd h.2 hn.2⟩
theorem chL_w {pre post : List Nat} {m : Nat → Option Items} {c : Nat} {l L : Items} (hne : post.all (fun q => !Nat.beq q c) = true) (h : noneAt m post) : chL (pre ++ c :: post) (updm m c (some l)) L = l :=
  chL_at (noneAt_upd hne h) (updm_at _ _ _)
structure Fc where
  p : Hp → Value → Option Items → Prop
  mono : ∀ H H' v it, H.le H' → p H v it → p H' v it
def Fc.is (v : Value) : Fc := ⟨fun _ v' it => v = v' ∧ it = none, fun _ _ _ _ _ h => h⟩
def Fc.of (P : Hp → Value → Prop) (hm : ∀ {H H' : Hp} {v : Value}, H.le H' → P H v → P H' v) : Fc := ⟨fun H v it => P H v ∧ it = none, fun _ _ _ _ hle h => ⟨hm hle h.1, h.2⟩⟩
def Fc.ro {α : Type} (k : Kd α) (xs : List α) : Fc := .of (fun H v => Ro k H v xs) fun hle h => h.mono hle
def Fc.ch (P : Hp → Value → Items → Prop) (hm : ∀ {H H' : Hp} {v : Value} {l : Items}, H.le H' → P H v l → P H' v l) : Fc := ⟨fun H v it => ∃ l, it = some l ∧ P H v l, fun _ _ _ _ hle h => let ⟨l, a, b⟩ := h; ⟨l, a, hm hle b⟩⟩
def fcF (l : List Fc) (i : Nat) (H : Hp) (v : Value) (it : Option Items) (_ : Nat → Option Items) : Prop := match l[i]? with
  | some f => f.p H v it
  | none => True
def fcX (ops : Array Oper) (p : Nat) (F : Nat → Hp → Value → Option Items → (Nat → Option Items) → Prop) (i : Nat) (H' : Hp) (m : Nat → Option Items) : Prop :=
  (∀ q, anc ops ops.size q i = true → q < ops.size → m q = none) ∧ (∀ j, anc ops ops.size i j = true → j < p → ∃ v, F j H' v (m j) m) ∧ ∀ j, j < p → m j = none ∨ ∃ v, F j H' v (m j) m
section
variable {P : Program} {f : FB} {n : Nat} {k : List Item} {σ : Nat → Value} {H : Hp} {R : Value → Hp → Items → Prop}
theorem w_chain {id : Nat} {ops : Array Oper} {p : Nat} {tl : List Nat} (ch : List Nat) (L0 : Items) (ds : List (List Dep)) (dsts : List (Option Nat)) (l : List Fc) (hm : P.follows .mixedOrders = true) (hck : drawOk ops p = true) (hdk : depsOk ops p ds dsts = true) (htl : List.range' p (ops.size - p) = tl)
    (hstep : StepsX P n ops (fcF l) (fun m => chL ch m L0) (fun _ => none) H σ (fcX ops p (fcF l)) 0 ds) (hfin : ∀ H', H.le H' → FinK (fcF l) H' (fun σ' m => Wp P f n (.inRegion ops tl :: k) σ' H' (chL ch m L0) R) 0 dsts σ (fun _ => none)) (h0 : chL ch (fun _ => none) L0 = L0) :
    Wp P f n (.code (.region id ops true) :: k) σ H L0 R := by
  have := w_drawnX (k := k) (f := f) (R := R) (id := id) ds dsts (fcF l) (fun m => chL ch m L0) (fun _ => none) hm hck hdk htl (fun i H H' v m m' hle h1 _ h => by
    unfold fcF at h ⊢
    cases e : l[i]? with
    | none => trivial
    | some f => rw [e] at h; rw [h1]; exact f.mono _ _ _ _ hle h) (X := fcX ops p (fcF l)) (fun i H' m hi h1 h2 h3 => ⟨fun q a b => h1 q b a, fun j a b => h2 j b a, h3⟩) hstep hfin
  rwa [h0] at this
variable {L : Items}
theorem ct_pull {f : FuncId} {args : Array Value} {it : Item'} {L' : Items} (u : Upd L it none L') (h : Ct P f args H (it :: L') R) : Ct P f args H L R := fun w hw => h w (hw.pull u)
theorem c_d {ops : Array Oper} {i : Nat} {op : Op} {d : Option Nat} {v : Value} {H' : Hp} {L0 : Items} {ch : List Nat} {m : Nat → Option Items} {Φ : Hp → Value → Option Items → Prop} (hm : m i = none) (hi : opAt ops i = some (op, d, none)) (h : OpA P n σ H' (chL ch m L0) op (Is v H' (chL ch m L0))) (hF : Φ H' v none) :
    GopA P n ops i σ H' (chL ch m L0) fun v H'' L'' => ∃ it, L'' = chL ch (updm m i it) L0 ∧ H'.le H'' ∧ Φ H'' v it := by
  unfold GopA; rw [hi]
  have e : updm m i none = m := by have := updm_self m i; rwa [hm] at this
  exact fun o ho => (h o ho).mono fun v' H2 L2 ⟨a, b, c⟩ => ⟨none, by rw [e]; exact c, by rw [b]; exact .refl _, by rw [a, b]; exact hF⟩
/-- A write. -/
theorem c_w {ops : Array Oper} {i : Nat} {op : Op} {d : Option Nat} {Ψ : Value → Hp → Items → Prop} {H' : Hp} {L0 : Items} {ch : List Nat} {m : Nat → Option Items} {Φ : Hp → Value → Option Items → Prop} (hi : opAt ops i = some (op, d, none)) (hl : ∀ l, chL ch (updm m i (some l)) L0 = l) (h : OpA P n σ H' L op Ψ) (hL : chL ch m L0 = L) (hF : ∀ v H'' L'', Ψ v H'' L'' → H'.le H'' ∧ Φ H'' v (some L'')) :
    GopA P n ops i σ H' (chL ch m L0) fun v H'' L'' => ∃ it, L'' = chL ch (updm m i it) L0 ∧ H'.le H'' ∧ Φ H'' v it := by
  subst hL
  unfold GopA; rw [hi]
  exact fun o ho => (h o ho).mono fun v H'' L'' x => ⟨some L'', (hl L'').symm, (hF v H'' L'' x).1, (hF v H'' L'' x).2⟩
end
end Go.Proofs.YtjhpkkhcgpilfaaDoorK

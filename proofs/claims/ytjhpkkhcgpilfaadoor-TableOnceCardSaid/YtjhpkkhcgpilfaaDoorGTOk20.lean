/- Drawn regions whose writes stand in one order, but for blocks that are made in any. -/
import Derived.Test.YtjhpkkhcgpilfaaDoorGTOk19
namespace Go.Proofs.YtjhpkkhcgpilfaaDoorK
open Go Go.RowKit
set_option linter.unusedVariables false
set_option linter.unusedSimpArgs false
def aI : Option Items → Item'
  | some (it :: _) => it
  | _ => none
/-- The items: what was made in any order, and al the last write left them. -/
def chA (al post pre : List Nat) (m : Nat → Option Items) (L0 : Items) : Items := chL post m (al.map (fun a => aI (m a)) ++ chL pre m L0)
theorem chA_pre {al post pre : List Nat} {m : Nat → Option Items} {L0 L l : Items} (h : noneAt m post) (hp : chL pre m L0 = L) (ha : al.map (fun a => aI (m a)) ++ L = l) : chA al post pre m L0 = l := by
  unfold chA; rw [chL_none h, hp]; exact ha
structure FcM where
  p : Hp → Value → Option Items → (Nat → Option Items) → Prop
  deps : List Nat
  mono : ∀ H H' v it m m', H.le H' → (∀ j ∈ deps, m' j = m j) → p H v it m → p H' v it m'
def FcM.of (f : Fc) : FcM := ⟨fun H v it _ => f.p H v it, [], fun _ _ _ _ _ _ hle _ h => f.mono _ _ _ _ hle h⟩
def FcM.chm (js : List Nat) (P : Hp → Value → Items → (Nat → Option Items) → Prop) (hm : ∀ {H H' : Hp} {v : Value} {l : Items} {m m' : Nat → Option Items}, H.le H' → (∀ j ∈ js, m' j = m j) → P H v l m → P H' v l m') : FcM := ⟨fun H v it m => ∃ l, it = some l ∧ P H v l m, js, fun _ _ _ _ _ _ hle hj h => let ⟨l, a, b⟩ := h; ⟨l, a, hm hle hj b⟩⟩
def fcM (l : List FcM) (i : Nat) (H : Hp) (v : Value) (it : Option Items) (m : Nat → Option Items) : Prop := match l[i]? with
  | some f => f.p H v it m
  | none => True
def depsIn (ops : Array Oper) (l : List FcM) : Bool := (l.zipIdx).all fun q => q.1.deps.all fun j => edge ops q.2 j
theorem bofM {x : Option Items} {b b' : Nat} {o o' : Obj} (h : x = some [some (b, o)]) (h' : x = some [some (b', o')]) : b = b' := by
  rw [h] at h'; simp at h'; exact h'.1
section
variable {P : Program} {f : FB} {n : Nat} {k : List Item} {σ : Nat → Value} {H : Hp} {R : Value → Hp → Items → Prop}
theorem w_chainA {id : Nat} {ops : Array Oper} {p : Nat} {tl : List Nat} (al post pre : List Nat) (L0 : Items) {L1 : Items} (ds : List (List Dep)) (dsts : List (Option Nat)) (l : List FcM) (hm : P.follows .mixedOrders = true) (hck : drawOk ops p = true) (hdk : depsOk ops p ds dsts = true) (hdi : depsIn ops l = true) (htl : List.range' p (ops.size - p) = tl)
    (hstep : StepsX P n ops (fcM l) (fun m => chA al post pre m L0) (fun _ => none) H σ (fcX ops p (fcM l)) 0 ds) (hfin : ∀ H', H.le H' → FinK (fcM l) H' (fun σ' m => Wp P f n (.inRegion ops tl :: k) σ' H' (chA al post pre m L0) R) 0 dsts σ (fun _ => none)) (h0 : chA al post pre (fun _ => none) L0 = L1) :
    Wp P f n (.code (.region id ops true) :: k) σ H L1 R := by
  have := w_drawnX (k := k) (f := f) (R := R) (id := id) ds dsts (fcM l) (fun m => chA al post pre m L0) (fun _ => none) hm hck hdk htl (fun i H H' v m m' hle h1 hj h => by
    unfold fcM at h ⊢
    cases e : l[i]? with
    | none => trivial
    | some f =>
      rw [e] at h; rw [h1]
      refine f.mono _ _ _ _ _ _ hle (fun j hjd => hj j ?_) h
      have h2 := List.all_eq_true.1 hdi (f, i) (by rw [List.mem_zipIdx_iff_getElem?]; exact e)
      exact List.all_eq_true.1 h2 j hjd) (X := fcX ops p (fcM l)) (fun i H' m hi h1 h2 h3 => ⟨fun q a b => h1 q b a, fun j a b => h2 j b a, h3⟩) hstep hfin
  rwa [h0] at this
variable {L L0 : Items} {al post pre : List Nat} {H' : Hp} {ops : Array Oper} {i : Nat} {op : Op} {m : Nat → Option Items} {Φ : Hp → Value → Option Items → (Nat → Option Items) → Prop}
theorem a_d {d : Option Nat} {v : Value} (hm : m i = none) (hL : chA al post pre m L0 = L) (hi : opAt ops i = some (op, d, none)) (h : OpA P n σ H' L op (Is v H' L)) (hF : Φ H' v none m) :
    GopA P n ops i σ H' (chA al post pre m L0) fun v H'' L'' => ∃ it, L'' = chA al post pre (updm m i it) L0 ∧ H'.le H'' ∧ Φ H'' v it (updm m i it) := by
  subst hL
  unfold GopA; rw [hi]
  have e : updm m i none = m := by have := updm_self m i; rwa [hm] at this
  exact fun o ho => (h o ho).mono fun v' H2 L2 ⟨a, b, c⟩ => ⟨none, by rw [e]; exact c, by rw [b]; exact .refl _, by rw [a, b, e]; exact hF⟩
/-- A write. -/
theorem a_w {d : Option Nat} {Ψ : Value → Hp → Items → Prop} (G : Items → Items) (hi : opAt ops i = some (op, d, none)) (hl : ∀ l, chA al post pre (updm m i (some l)) L0 = G l) (hL : chA al post pre m L0 = L) (h : OpA P n σ H' L op Ψ) (hF : ∀ v H'' L'', Ψ v H'' L'' → H'.le H'' ∧ ∃ l, L'' = G l ∧ Φ H'' v (some l) (updm m i (some l))) :
    GopA P n ops i σ H' (chA al post pre m L0) fun v H'' L'' => ∃ it, L'' = chA al post pre (updm m i it) L0 ∧ H'.le H'' ∧ Φ H'' v it (updm m i it) := by
  subst hL
  unfold GopA; rw [hi]
  exact fun o ho => (h o ho).mono fun v H'' L'' x => by
    obtain ⟨h1, l, h2, h3⟩ := hF v H'' L'' x
    exact ⟨some l, by rw [h2, hl], h1, h3⟩
theorem a_wP {d : Option Nat} {Ψ : Value → Hp → Items → Prop} (G : Items → Items) (hi : opAt ops i = some (op, d, none)) (hl : ∀ l, chA al post pre (updm m i (some l)) L0 = G l) (hL : chA al post pre m L0 = L) (h : OpA P n σ H' L op Ψ) (hF : ∀ v H'' L'', Ψ v H'' L'' → H'.le H'' ∧ ∃ l, L''.Perm (G l) ∧ Φ H'' v (some l) (updm m i (some l))) :
    GopA P n ops i σ H' (chA al post pre m L0) fun v H'' L'' => ∃ it, L'' = chA al post pre (updm m i it) L0 ∧ H'.le H'' ∧ Φ H'' v it (updm m i it) := by
  subst hL
  unfold GopA; rw [hi]
  intro o ho w hw cs'
  obtain ⟨v, w', H2, L2, a, x, c⟩ := h o ho w hw cs'
  obtain ⟨h1, l, h2, h3⟩ := hF v H2 L2 x
  exact ⟨v, w', H2, _, a.perm h2, ⟨some l, (hl l).symm, h1, h3⟩, c⟩
/-- A block that is made. -/
theorem a_al {d : Option Nat} {o : Obj} {T : TypeId} (hi : opAt ops i = some (op, d, none)) (h : OpA P n σ H' (chA al post pre m L0) op (fun v' H2 L2 => ∃ b, v' = .pointer (some ⟨b, 0, none⟩) ∧ H' = H2 ∧ L2 = some (b, o) :: chA al post pre m L0)) (hu : ∀ it, Upd (chA al post pre m L0) none it (chA al post pre (updm m i (some [it])) L0)) (hF : ∀ b : Nat, Φ H' (.pointer (some ⟨b, 0, none⟩)) (some [some (b, o)]) (updm m i (some [some (b, o)]))) :
    GopA P n ops i σ H' (chA al post pre m L0) fun v H'' L'' => ∃ it, L'' = chA al post pre (updm m i it) L0 ∧ H'.le H'' ∧ Φ H'' v it (updm m i it) := by
  unfold GopA; rw [hi]
  intro o' ho w hw cs'
  obtain ⟨v, w', H2, L2, a, ⟨b, rfl, rfl, rfl⟩, c⟩ := h o' ho w hw cs'
  exact ⟨_, w', H', _, a.put' (hu _), ⟨some [some (b, o)], rfl, .refl _, hF b⟩, c⟩
theorem upd_al {i : Nat} {l : Items} {it : Item'} (hm : m i = none) : Upd (aI (m i) :: l) none it (it :: l) := by rw [hm]; exact .here
/-- A block that is made in any order. -/
theorem a_alA {d : Option Nat} {o : Obj} (hn : noneAt m post) (hne : post.all (fun q => !Nat.beq q i) = true) (hi : opAt ops i = some (op, d, none)) (h : ∀ {L : Items}, OpA P n σ H' L op (fun v' H2 L2 => ∃ b, v' = .pointer (some ⟨b, 0, none⟩) ∧ H' = H2 ∧ L2 = some (b, o) :: L)) (hu : ∀ it, Upd (al.map (fun a => aI (m a)) ++ chL pre m L0) none it (al.map (fun a => aI (updm m i (some [it]) a)) ++ chL pre (updm m i (some [it])) L0)) (hF : ∀ b : Nat, Φ H' (.pointer (some ⟨b, 0, none⟩)) (some [some (b, o)]) (updm m i (some [some (b, o)]))) :
    GopA P n ops i σ H' (chA al post pre m L0) fun v H'' L'' => ∃ it, L'' = chA al post pre (updm m i it) L0 ∧ H'.le H'' ∧ Φ H'' v it (updm m i it) := by
  refine a_al (T := 0) hi h (fun it => ?_) hF
  show Upd (chA al post pre m L0) none it (chA al post pre _ L0)
  unfold chA
  rw [chL_none hn, chL_none (noneAt_upd hne hn)]; exact hu it
end
end Go.Proofs.YtjhpkkhcgpilfaaDoorK

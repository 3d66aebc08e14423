/- Rows of the call's own whose elements have rows of their own: a family of items, behind the others. -/
import Derived.Test.YtjhpkkhcgpilfaaDoorGCAk16
namespace Go.Proofs.YtjhpkkhcgpilfaaDoorK
open Go Go.RowKit
set_option linter.unusedVariables false
set_option linter.unusedSimpArgs false
/-! ### items in another order -/
/-! ### kinds with rows of their own -/
structure Kf (α β : Type) where
  raw : Kd (α × β)
  ro : Kd α
  fam : Hp → Items → α → β → Prop
  mono : ∀ {H H' its a b}, H.le H' → fam H its a b → fam H' its a b
  fr : ∀ {H w its L cs a b}, Own H w (its ++ L) → fam H its a b → raw.rep H cs (a, b) → ∃ H', H.le H' ∧ Own H' w L ∧ ro.rep H' cs a
  sz : ro.sz = raw.sz
def FamR {α β : Type} (k : Kf α β) (H : Hp) : Items → List α → List β → Prop
  | F, [], [] => F = []
  | F, a :: l1, b :: bs => ∃ its r, F = its ++ r ∧ k.fam H its a b ∧ FamR k H r l1 bs
  | _, _, _ => False
def SlF {α β : Type} (k : Kf α β) (H : Hp) (T : TypeId) (it : Item') (F : Items) (v : Value) (xs : List α) : Prop := ∃ bs, FamR k H F xs bs ∧ Sl k.raw H T it v (xs.zip bs)
section
variable {α β : Type} {k : Kf α β} {H H' : Hp}
theorem FamR.mono (hle : H.le H') : ∀ {F : Items} {xs : List α} {bs : List β}, FamR k H F xs bs → FamR k H' F xs bs
  | _, [], [], h => h
  | _, a :: l1, b :: bs, ⟨its, r, e, h1, h2⟩ => ⟨its, r, e, k.mono hle h1, FamR.mono hle h2⟩
  | _, [], _ :: _, h => h.elim
  | _, _ :: _, [], h => h.elim
theorem FamR.len : ∀ {F : Items} {xs : List α} {bs : List β}, FamR k H F xs bs → xs.length = bs.length
  | _, [], [], _ => rfl
  | _, a :: l1, b :: bs, ⟨_, _, _, _, h2⟩ => by rw [List.length_cons, List.length_cons, FamR.len h2]
  | _, [], _ :: _, h => h.elim
  | _, _ :: _, [], h => h.elim
theorem FamR.at_ : ∀ {F : Items} {xs : List α} {bs : List β}, FamR k H F xs bs → ∀ n (hn : n < xs.length) (hb : n < bs.length), ∃ A its B, F = A ++ (its ++ B) ∧ k.fam H its xs[n] bs[n] ∧
    ∀ {H' its' a' b'}, H.le H' → k.fam H' its' a' b' → FamR k H' (A ++ (its' ++ B)) (xs.set n a') (bs.set n b')
  | _, a :: l1, b :: bs, ⟨its, r, e, h1, h2⟩, 0, _, _ => ⟨[], its, r, e, h1, fun hle h => ⟨_, r, rfl, h, FamR.mono hle h2⟩⟩
  | _, a :: l1, b :: bs, ⟨its, r, e, h1, h2⟩, n + 1, hn, hb => by
    obtain ⟨A, i2, B, e2, h3, h4⟩ := FamR.at_ h2 n (by simpa using hn) (by simpa using hb)
    refine ⟨its ++ A, i2, B, by rw [e, e2, List.append_assoc], h3, fun hle h => ⟨its, _, ?_, k.mono hle h1, h4 hle h⟩⟩
    rw [List.append_assoc]
  | _, [], [], _, n, hn, _ => by simp at hn
theorem SlF.mono {T it F v} {xs : List α} (h : SlF k H T it F v xs) (hle : H.le H') : SlF k H' T it F v xs := let ⟨bs, a, b⟩ := h; ⟨bs, a.mono hle, b.mono hle⟩
theorem zip_set {n : Nat} {a' : α} {b' : β} : ∀ {xs : List α} {bs : List β}, (xs.set n a').zip (bs.set n b') = (xs.zip bs).set n (a', b') := by
  intro xs
  induction xs generalizing n with
  | nil => intro bs; simp
  | cons x xs ih =>
    intro bs
    cases bs with
    | nil => simp
    | cons b bs => cases n with
      | zero => simp
      | succ n => simp [ih]
/-- An element's rows are laid open; closed again by what they are then. -/
theorem SlF.open [Inhabited α] {T it F v} {xs : List α} {i : Int} (h : SlF k H T it F v xs) (hi : In xs i) : ∃ A its B rs b, F = A ++ (its ++ B) ∧ k.fam H its (rd xs i) b ∧ Sl k.raw H T it v rs ∧ rs.length = xs.length ∧ rs[i.toNat]? = some (rd xs i, b) ∧
    ∀ {H' it' its' a' b'}, H.le H' → k.fam H' its' a' b' → Sl k.raw H' T it' v (rs.set i.toNat (a', b')) → SlF k H' T it' (A ++ (its' ++ B)) v (xs.set i.toNat a') := by
  obtain ⟨bs, h1, h2⟩ := h
  have hlt : i.toNat < xs.length := by have := hi.1; have := hi.2; omega
  have hl := h1.len
  obtain ⟨A, its, B, e, h3, h4⟩ := h1.at_ i.toNat hlt (by omega)
  have hr : rd xs i = xs[i.toNat] := by unfold rd; rw [List.getD_eq_getElem?_getD, List.getElem?_eq_getElem hlt]; rfl
  refine ⟨A, its, B, xs.zip bs, bs[i.toNat]'(by omega), e, by rw [hr]; exact h3, h2, by rw [List.length_zip]; omega, ?_, fun hle hf hs => ⟨bs.set i.toNat _, h4 hle hf, by rw [zip_set]; exact hs⟩⟩
  rw [List.getElem?_eq_getElem (by rw [List.length_zip]; omega), List.getElem_zip, hr]
theorem Sl.same {kd : Kd α} {T it v} {xs : List α} {n : Nat} {z x : α} (h : Sl kd H T it v xs) (hx : xs[n]? = some x) (hz : ∀ cs, kd.rep H cs x → kd.rep H cs z) : Sl kd H T it v (xs.set n z) := by
  rcases h with ⟨rfl, rfl, rfl⟩ | ⟨b, o, arr, c, rfl, rfl, h3, h4, h5⟩
  · simp at hx
  · refine .inr ⟨b, o, arr, c, rfl, by rw [List.length_set], by rw [List.length_set]; exact h3, h4, ?_⟩
    rw [List.length_set]
    generalize (arr.toList.drop o).take (xs.length * kd.sz) = inner at h5 ⊢
    clear h3 h4
    induction xs generalizing inner n with
    | nil => simp at hx
    | cons y ys ih =>
      obtain ⟨c1, r, e, h1, h2⟩ := h5
      cases n with
      | zero => simp at hx; subst hx; exact ⟨c1, r, e, hz _ h1, h2⟩
      | succ n => exact ⟨c1, r, e, h1, ih (by simpa using hx) r h2⟩
theorem FamR.freeze : ∀ {F : Items} {xs : List α} {bs : List β} {w : World} {L : Items} {inner : List Value} {H : Hp}, Own H w (F ++ L) → FamR k H F xs bs → Reps k.raw H inner (xs.zip bs) → ∃ H', H.le H' ∧ Own H' w L ∧ Reps k.ro H' inner xs
  | _, [], [], w, L, inner, H, o, h, hr => by rw [show _ = [] from h] at o; exact ⟨H, .refl _, o, hr⟩
  | _, a :: l1, b :: bs, w, L, inner, H, o, ⟨its, r, e, h1, h2⟩, ⟨c, r', e', h3, h4⟩ => by
    rw [e, List.append_assoc] at o
    obtain ⟨H1, le1, o1, p1⟩ := k.fr o h1 h3
    obtain ⟨H2, le2, o2, p2⟩ := FamR.freeze o1 (h2.mono le1) (h4.mono le1)
    exact ⟨H2, le1.trans le2, o2, c, r', e', k.ro.mono le2 p1, p2⟩
  | _, [], _ :: _, _, _, _, _, _, h, _ => h.elim
  | _, _ :: _, [], _, _, _, _, _, h, _ => h.elim
end
section
variable {P : Program} {f : FB} {n : Nat} {k : List Item} {σ : Nat → Value} {H : Hp} {L : Items} {R : Value → Hp → Items → Prop}
end
end Go.Proofs.YtjhpkkhcgpilfaaDoorK

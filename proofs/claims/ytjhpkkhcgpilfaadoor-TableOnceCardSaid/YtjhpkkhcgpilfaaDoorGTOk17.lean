/- Rows of the call's own whose elements have rows of their own: a family of items, behind the others. -/
import Derived.Test.YtjhpkkhcgpilfaaDoorGTOk16
namespace Go.Proofs.YtjhpkkhcgpilfaaDoorK
open Go Go.RowKit
set_option linter.unusedVariables false
set_option linter.unusedSimpArgs false
/-! ### items in another order -/
def HeldP (H : Hp) (w : World) (P : List (Nat × Obj)) : Prop := (∀ p ∈ P, H.at_ p.1 = none ∧ w.heap[p.1]? = some p.2) ∧ (P.map (·.1)).Nodup
theorem keys_fm : ∀ L : Items, keys L = (L.filterMap id).map (·.1)
  | [] => rfl
  | none :: l => by rw [List.filterMap_cons]; exact keys_fm l
  | some (b, o) :: l => by rw [List.filterMap_cons]; show b :: keys l = _; rw [keys_fm l]; rfl
theorem held_iff {H : Hp} {w : World} : ∀ L : Items, Held H w L ↔ HeldP H w (L.filterMap id)
  | [] => ⟨fun _ => ⟨fun p hp => (by cases hp), List.nodup_nil⟩, fun _ => trivial⟩
  | none :: l => by rw [List.filterMap_cons]; exact held_iff l
  | some (b, o) :: l => by
    rw [List.filterMap_cons]
    have ih := held_iff (H := H) (w := w) l
    constructor
    · rintro ⟨⟨h1, h2, h3⟩, h4⟩
      obtain ⟨a, c⟩ := ih.1 h4
      refine ⟨fun p hp => ?_, ?_⟩
      · rcases List.mem_cons.1 hp with rfl | hp
        · exact ⟨h1, h2⟩
        · exact a p hp
      · show (b :: (l.filterMap id).map (·.1)).Nodup
        rw [← keys_fm]; rw [← keys_fm] at c; exact List.nodup_cons.2 ⟨h3, c⟩
    · rintro ⟨a, c⟩
      have c' : (b :: (l.filterMap id).map (·.1)).Nodup := c
      rw [List.nodup_cons] at c'
      exact ⟨⟨(a _ (List.mem_cons_self ..)).1, (a _ (List.mem_cons_self ..)).2, by rw [keys_fm]; exact c'.1⟩, ih.2 ⟨fun p hp => a p (List.mem_cons_of_mem _ hp), c'.2⟩⟩
theorem Own.permN {H w} {L L' : Items} (h : Own H w L) (p : (L.filterMap id).Perm (L'.filterMap id)) : Own H w L' := by
  refine ⟨h.os, h.tape, h.out, h.good, (held_iff L').2 ?_⟩
  obtain ⟨a, c⟩ := (held_iff L).1 h.held
  exact ⟨fun q hq => a q (p.mem_iff.2 hq), (p.map _).nodup_iff.1 c⟩
theorem Own.perm {H w} {L L' : Items} (h : Own H w L) (p : L.Perm L') : Own H w L' := h.permN (p.filterMap _)
theorem perm_seg {α : Type} (A F L : List α) : (A ++ (F ++ L)).Perm (F ++ (A ++ L)) := by
  rw [← List.append_assoc, ← List.append_assoc]; exact List.perm_append_comm.append_right _
/-! ### kinds with rows of their own -/
structure Kf (α β : Type) where
  raw : Kd (α × β)
  ro : Kd α
  fam : Hp → Items → α → β → Prop
  mono : ∀ {H H' its a b}, H.le H' → fam H its a b → fam H' its a b
  fr : ∀ {H w its L cs a b}, Own H w (its ++ L) → fam H its a b → raw.rep H cs (a, b) → ∃ H', H.le H' ∧ Own H' w L ∧ ro.rep H' cs a
  sz : ro.sz = raw.sz
def FamR {α β : Type} (k : Kf α β) (H : Hp) : Items → List α → List β → Prop
  | F, [], [] => F = []
  | F, a :: l1, b :: bs => ∃ its r, F = its ++ r ∧ k.fam H its a b ∧ FamR k H r l1 bs
  | _, _, _ => False
def SlF {α β : Type} (k : Kf α β) (H : Hp) (T : TypeId) (it : Item') (F : Items) (v : Value) (xs : List α) : Prop := ∃ bs, FamR k H F xs bs ∧ Sl k.raw H T it v (xs.zip bs)
section
variable {α β : Type} {k : Kf α β} {H H' : Hp}
theorem FamR.mono (hle : H.le H') : ∀ {F : Items} {xs : List α} {bs : List β}, FamR k H F xs bs → FamR k H' F xs bs
  | _, [], [], h => h
  | _, a :: l1, b :: bs, ⟨its, r, e, h1, h2⟩ => ⟨its, r, e, k.mono hle h1, FamR.mono hle h2⟩
  | _, [], _ :: _, h => h.elim
  | _, _ :: _, [], h => h.elim
theorem FamR.len : ∀ {F : Items} {xs : List α} {bs : List β}, FamR k H F xs bs → xs.length = bs.length
  | _, [], [], _ => rfl
  | _, a :: l1, b :: bs, ⟨_, _, _, _, h2⟩ => by rw [List.length_cons, List.length_cons, FamR.len h2]
  | _, [], _ :: _, h => h.elim
  | _, _ :: _, [], h => h.elim
theorem FamR.app : ∀ {F : Items} {xs : List α} {bs : List β} {its : Items} {a : α} {b : β}, FamR k H F xs bs → k.fam H its a b → FamR k H (F ++ its) (xs ++ [a]) (bs ++ [b])
  | _, [], [], its, a, b, h, h' => by rw [show _ = [] from h]; exact ⟨its, [], by simp, h', rfl⟩
  | _, x :: xs, y :: bs, its, a, b, ⟨i1, r, e, h1, h2⟩, h' => ⟨i1, r ++ its, by rw [e, List.append_assoc], h1, FamR.app h2 h'⟩
  | _, [], _ :: _, _, _, _, h, _ => h.elim
  | _, _ :: _, [], _, _, _, h, _ => h.elim
theorem FamR.at_ : ∀ {F : Items} {xs : List α} {bs : List β}, FamR k H F xs bs → ∀ n (hn : n < xs.length) (hb : n < bs.length), ∃ A its B, F = A ++ (its ++ B) ∧ k.fam H its xs[n] bs[n] ∧
    ∀ {H' its' a' b'}, H.le H' → k.fam H' its' a' b' → FamR k H' (A ++ (its' ++ B)) (xs.set n a') (bs.set n b')
  | _, a :: l1, b :: bs, ⟨its, r, e, h1, h2⟩, 0, _, _ => ⟨[], its, r, e, h1, fun hle h => ⟨_, r, rfl, h, FamR.mono hle h2⟩⟩
  | _, a :: l1, b :: bs, ⟨its, r, e, h1, h2⟩, n + 1, hn, hb => by
    obtain ⟨A, i2, B, e2, h3, h4⟩ := FamR.at_ h2 n (by simpa using hn) (by simpa using hb)
    refine ⟨its ++ A, i2, B, by rw [e, e2, List.append_assoc], h3, fun hle h => ⟨its, _, ?_, k.mono hle h1, h4 hle h⟩⟩
    rw [List.append_assoc]
  | _, [], [], _, n, hn, _ => by simp at hn
theorem SlF.mono {T it F v} {xs : List α} (h : SlF k H T it F v xs) (hle : H.le H') : SlF k H' T it F v xs := let ⟨bs, a, b⟩ := h; ⟨bs, a.mono hle, b.mono hle⟩
theorem slf_nil (k : Kf α β) (H : Hp) (T : TypeId) : SlF k H T none [] (.slice none 0 0) [] := ⟨[], rfl, sl_nil _ _ _⟩
theorem zip_set {n : Nat} {a' : α} {b' : β} : ∀ {xs : List α} {bs : List β}, (xs.set n a').zip (bs.set n b') = (xs.zip bs).set n (a', b') := by
  intro xs
  induction xs generalizing n with
  | nil => intro bs; simp
  | cons x xs ih =>
    intro bs
    cases bs with
    | nil => simp
    | cons b bs => cases n with
      | zero => simp
      | succ n => simp [ih]
/-- An element's rows are laid open; closed again by what they are then. -/
theorem SlF.open [Inhabited α] {T it F v} {xs : List α} {i : Int} (h : SlF k H T it F v xs) (hi : In xs i) : ∃ A its B rs b, F = A ++ (its ++ B) ∧ k.fam H its (rd xs i) b ∧ Sl k.raw H T it v rs ∧ rs.length = xs.length ∧ rs[i.toNat]? = some (rd xs i, b) ∧
    ∀ {H' it' its' a' b'}, H.le H' → k.fam H' its' a' b' → Sl k.raw H' T it' v (rs.set i.toNat (a', b')) → SlF k H' T it' (A ++ (its' ++ B)) v (xs.set i.toNat a') := by
  obtain ⟨bs, h1, h2⟩ := h
  have hlt : i.toNat < xs.length := by have := hi.1; have := hi.2; omega
  have hl := h1.len
  obtain ⟨A, its, B, e, h3, h4⟩ := h1.at_ i.toNat hlt (by omega)
  have hr : rd xs i = xs[i.toNat] := by unfold rd; rw [List.getD_eq_getElem?_getD, List.getElem?_eq_getElem hlt]; rfl
  refine ⟨A, its, B, xs.zip bs, bs[i.toNat]'(by omega), e, by rw [hr]; exact h3, h2, by rw [List.length_zip]; omega, ?_, fun hle hf hs => ⟨bs.set i.toNat _, h4 hle hf, by rw [zip_set]; exact hs⟩⟩
  rw [List.getElem?_eq_getElem (by rw [List.length_zip]; omega), List.getElem_zip, hr]
theorem Sl.same {kd : Kd α} {T it v} {xs : List α} {n : Nat} {z x : α} (h : Sl kd H T it v xs) (hx : xs[n]? = some x) (hz : ∀ cs, kd.rep H cs x → kd.rep H cs z) : Sl kd H T it v (xs.set n z) := by
  rcases h with ⟨rfl, rfl, rfl⟩ | ⟨b, o, arr, c, rfl, rfl, h3, h4, h5⟩
  · simp at hx
  · refine .inr ⟨b, o, arr, c, rfl, by rw [List.length_set], by rw [List.length_set]; exact h3, h4, ?_⟩
    rw [List.length_set]
    generalize (arr.toList.drop o).take (xs.length * kd.sz) = inner at h5 ⊢
    clear h3 h4
    induction xs generalizing inner n with
    | nil => simp at hx
    | cons y ys ih =>
      obtain ⟨c1, r, e, h1, h2⟩ := h5
      cases n with
      | zero => simp at hx; subst hx; exact ⟨c1, r, e, hz _ h1, h2⟩
      | succ n => exact ⟨c1, r, e, h1, ih (by simpa using hx) r h2⟩
theorem FamR.freeze : ∀ {F : Items} {xs : List α} {bs : List β} {w : World} {L : Items} {inner : List Value} {H : Hp}, Own H w (F ++ L) → FamR k H F xs bs → Reps k.raw H inner (xs.zip bs) → ∃ H', H.le H' ∧ Own H' w L ∧ Reps k.ro H' inner xs
  | _, [], [], w, L, inner, H, o, h, hr => by rw [show _ = [] from h] at o; exact ⟨H, .refl _, o, hr⟩
  | _, a :: l1, b :: bs, w, L, inner, H, o, ⟨its, r, e, h1, h2⟩, ⟨c, r', e', h3, h4⟩ => by
    rw [e, List.append_assoc] at o
    obtain ⟨H1, le1, o1, p1⟩ := k.fr o h1 h3
    obtain ⟨H2, le2, o2, p2⟩ := FamR.freeze o1 (h2.mono le1) (h4.mono le1)
    exact ⟨H2, le1.trans le2, o2, c, r', e', k.ro.mono le2 p1, p2⟩
  | _, [], _ :: _, _, _, _, _, _, h, _ => h.elim
  | _, _ :: _, [], _, _, _, _, _, h, _ => h.elim
end
theorem SlF.shp {α β : Type} {k : Kf α β} {H : Hp} {T it F v} {xs : List α} (h : SlF k H T it F v xs) : Shp v xs := by
  obtain ⟨bs, h1, h2⟩ := h
  have hz : (xs.zip bs).length = xs.length := by rw [List.length_zip, h1.len]; omega
  rcases h2 with ⟨rfl, rfl, e⟩ | ⟨b, o, arr, c, rfl, rfl, h3, h4, h5⟩
  · rw [e] at hz
    exact ⟨none, 0, by rw [← hz]; rfl, .inl (List.eq_nil_of_length_eq_zero hz.symm)⟩
  · exact ⟨_, c, by rw [hz], .inr ⟨_, rfl⟩⟩
theorem el_at {α : Type} {H : Hp} {L : Items} {kd : Kd α} {v : Value} {xs : List α} {i : Int} {a : α} (hs : Src kd H L v xs) (ha : xs[i.toNat]? = some a) : ∃ cs, Lies H L (pel v i kd.sz) cs ∧ kd.rep H cs a := by
  obtain ⟨A, c, rfl, h2, h3⟩ := hs
  rcases h3 with rfl | ⟨q, inner, rfl, hq, h4, h5⟩
  · simp at ha
  · obtain ⟨hlt, rfl⟩ := List.getElem?_eq_some_iff.1 ha
    exact ⟨_, h4.sub hq (i.toNat * kd.sz) kd.sz, h5.get i.toNat hlt⟩
theorem Src.sg {α : Type} {k : Kd α} {H : Hp} {F L v xs} (h : Src (α := α) k H L v xs) : Src k H (F ++ L) v xs := by
  induction F with
  | nil => exact h
  | cons a F ih => exact ih.th
theorem Lies.sg {H : Hp} {F L a cs} (h : Lies H L a cs) : Lies H (F ++ L) a cs := by
  induction F with
  | nil => exact h
  | cons x F ih => exact ih.th
section
variable {P : Program} {f : FB} {n : Nat} {k : List Item} {σ : Nat → Value} {H : Hp} {L : Items} {R : Value → Hp → Items → Prop}
theorem w_perm {L' : Items} (p : L.Perm L') (hk : Wp P f n k σ H L' R) : Wp P f n k σ H L R := fun w hw => hk w (hw.perm p)
/-- The family is laid open, its parts to the front; and back. -/
theorem w_open {A its B Q L0 : Items} (hk : Wp P f n k σ H (its ++ (Q ++ ((A ++ B) ++ L0))) R) : Wp P f n k σ H (Q ++ ((A ++ (its ++ B)) ++ L0)) R := by
  refine w_perm ?_ hk
  have e1 : Q ++ ((A ++ (its ++ B)) ++ L0) = (Q ++ A) ++ (its ++ (B ++ L0)) := by simp only [List.append_assoc]
  have e2 : its ++ (Q ++ ((A ++ B) ++ L0)) = its ++ ((Q ++ A) ++ (B ++ L0)) := by simp only [List.append_assoc]
  rw [e1, e2]; exact perm_seg _ _ _
theorem w_shut {A its B Q L0 : Items} (hk : Wp P f n k σ H (Q ++ ((A ++ (its ++ B)) ++ L0)) R) : Wp P f n k σ H (its ++ (Q ++ ((A ++ B) ++ L0))) R := by
  refine w_perm ?_ hk
  have e1 : Q ++ ((A ++ (its ++ B)) ++ L0) = (Q ++ A) ++ (its ++ (B ++ L0)) := by simp only [List.append_assoc]
  have e2 : its ++ (Q ++ ((A ++ B) ++ L0)) = its ++ ((Q ++ A) ++ (B ++ L0)) := by simp only [List.append_assoc]
  rw [e1, e2]; exact (perm_seg _ _ _).symm
theorem w_lose {F Q L0 : Items} (hk : Wp P f n k σ H (Q ++ L0) R) : Wp P f n k σ H (Q ++ (F ++ L0)) R := fun w hw => hk w (hw.perm (perm_seg Q F L0)).unapp
theorem o_appendF {α β : Type} {kf : Kf α β} {t tx e e' : TypeId} {x y : Operand} {s v : Value} {it : Item'} {F its : Items} {xs : List α} {a : α} {b : β} {z : Value} {G : Item' → Items} {bytes : Nat} (ht : P.underlying t = some (.slice e)) (htx : P.underlying tx = some (.slice e')) (hT : TI P e kf.raw.sz bytes z) (hzl : Nat.beq z.cells.size kf.raw.sz = true) (hb : (2 * (xs.length + 1) + 192) * bytes ≤ 281474976710656 ∧ xs.length + 1 ≤ 9223372036854775807)
    (hx : ev n σ x = s) (hy : ev n σ y = v) (hs : SlF kf H e it F s xs) (hv : Src kf.raw H L v [(a, b)]) (hf : kf.fam H its a b) (hu : ∀ it', Upd L it it' (G it')) :
    OpA P n σ H L (.call { callee := .builtin .append, args := #[x, y], argTypes := #[t, tx] }) (fun v' H' L' => ∃ it', H = H' ∧ L' = G it' ∧ SlF kf H e it' (F ++ its) v' (xs ++ [a])) := by
  obtain ⟨bs, h1, h2⟩ := hs
  have hl := h1.len
  have hz : (xs.zip bs).length = xs.length := by rw [List.length_zip]; omega
  have := o_append' (P := P) (n := n) (σ := σ) (ys := [(a, b)]) ht htx hT hzl (by rw [hz]; exact hb) hx hy h2 hv hu
  intro o ho
  refine (this o ho).mono fun v' H' L' ⟨it', e1, e2, e3⟩ => ⟨it', e1, e2, bs ++ [b], h1.app hf, ?_⟩
  rw [List.zip_append hl]; exact e3
theorem splice2 {α : Type} {l vs : List α} {a sz j m : Nat} (h : j + m ≤ sz) (hl : a + sz ≤ l.length) : l.take a ++ ((l.drop a).take sz).take j ++ vs ++ ((l.drop a).take sz).drop (j + m) ++ l.drop (a + sz) = l.take (a + j) ++ vs ++ l.drop (a + j + m) := by
  rw [List.take_take, show min j sz = j by omega, ← List.take_add]
  have e : ((l.drop a).take sz).drop (j + m) ++ l.drop (a + sz) = l.drop (a + j + m) := by
    have h2 : (l.drop a).take sz ++ (l.drop a).drop sz = l.drop a := List.take_append_drop ..
    have h3 := congrArg (List.drop (j + m)) h2
    rw [List.drop_append_of_le_length (by rw [List.length_take, List.length_drop]; omega), List.drop_drop, List.drop_drop] at h3
    rw [h3]; congr 1; omega
  rw [List.append_assoc _ _ (l.drop (a + sz)), e]
/-- A part of an element of the call's own row is written. -/
theorem o_storeElP {α : Type} {kd : Kd α} {t : TypeId} {x y : Operand} {s : Value} {T : TypeId} {it : Item'} {xs : List α} {i : Int} {j : Nat} {a z : α} {v : Value} {vs : List Value} {F : Item' → Items} (hsz : (P.info? t).map (·.size) = some vs.length) (hx : ev n σ x = .pointer (some ((pel s i kd.sz).add j))) (hy : ev n σ y = v) (hv : v.cells = ⟨vs⟩) (h1 : ∀ c ∈ vs, c.oneCell' = true) (hs : Sl kd H T it s xs) (hi : In xs i) (ha : xs[i.toNat]? = some a) (hj : j + vs.length ≤ kd.sz) (hz : ∀ cs, kd.rep H cs a → kd.rep H (cs.take j ++ vs ++ cs.drop (j + vs.length)) z) (hu : ∀ it', Upd L it it' (F it')) :
    OpA P n σ H L (.store t x y) (fun v' H' L'' => ∃ it', v' = undef ∧ H = H' ∧ L'' = F it' ∧ Sl kd H T it' s (xs.set i.toNat z)) := fun o ho => opr_run fun w hw => by
  have hlt : i.toNat < xs.length := by have := hi.1; have := hi.2; omega
  rcases hs with ⟨rfl, rfl, rfl⟩ | ⟨b, off, arr, c, rfl, rfl, h3, h4, h5⟩
  · simp at hlt
  · have hpel : (pel (.slice (some ⟨b, off, none⟩) xs.length c) i kd.sz).add j = ⟨b, off + i.toNat * kd.sz + j, none⟩ := by
      show (Addr.add ⟨b, off, none⟩ (i.toNat * kd.sz)).add j = _
      rw [addr_add (a := ⟨b, off, none⟩) rfl, addr_add (a := ⟨b, off + i.toNat * kd.sz, none⟩) rfl]
    have hle : i.toNat * kd.sz + kd.sz ≤ xs.length * kd.sz := by rw [← Nat.succ_mul]; exact Nat.mul_le_mul_right _ hlt
    have hle2 : xs.length * kd.sz ≤ c * kd.sz := Nat.mul_le_mul_right _ h3
    obtain ⟨w', h6, h7, h8, h9, h10, h11⟩ := run_storeCells (P := P) (off := off + i.toNat * kd.sz + j) vs 0 arr w (hw.has (hu none).has).2 (by omega) h1
    have hat : xs[i.toNat] = a := by rw [List.getElem?_eq_getElem hlt] at ha; exact Option.some.inj ha
    have hg := h5.get i.toNat hlt
    rw [hat] at hg
    have hset := h5.set i.toNat _ z hlt (hz _ hg)
    refine ⟨undef, w', H, _, .inr ⟨?_, rfl⟩, hw.put (hu _) h7 h8 h9 h10 fun c _ hc => h11 c hc, _, rfl, rfl, rfl, .inr ⟨b, off, _, c, rfl, ?_, ?_, ?_, ?_⟩⟩
    · unfold execOp; rw [ho]
      rw [hpel] at hx
      simp [hx, hy, Instr.storeAt, Instr.sureAddr, storeVar, hv, run_sizeOf' hsz, h6]
    · rw [List.length_set]
    · rw [List.length_set]; exact h3
    · simp; omega
    · rw [List.length_set]
      have e : ((arr.toList.take (off + i.toNat * kd.sz + j + 0) ++ vs ++ arr.toList.drop (off + i.toNat * kd.sz + j + 0 + vs.length)).drop off).take (xs.length * kd.sz) = ((arr.toList.drop off).take (xs.length * kd.sz)).take (i.toNat * kd.sz) ++ ((((arr.toList.drop off).take (xs.length * kd.sz)).drop (i.toNat * kd.sz)).take kd.sz).take j ++ vs ++ ((((arr.toList.drop off).take (xs.length * kd.sz)).drop (i.toNat * kd.sz)).take kd.sz).drop (j + vs.length) ++ ((arr.toList.drop off).take (xs.length * kd.sz)).drop (i.toNat * kd.sz + kd.sz) := by
        simp only [Nat.add_zero]
        have hll : arr.toList.length = arr.size := by simp
        rw [splice2 hj (by rw [List.length_take, List.length_drop]; omega), Nat.add_assoc off, drop_splice (by omega)]
        generalize hg : arr.toList.drop off = l
        have hl2 : l.length = arr.size - off := by rw [← hg]; simp
        rw [List.append_assoc, List.append_assoc, List.take_take, show min (i.toNat * kd.sz + j) (xs.length * kd.sz) = i.toNat * kd.sz + j by omega, List.take_append]
        have hlen : (l.take (i.toNat * kd.sz + j)).length = i.toNat * kd.sz + j := by rw [List.length_take]; omega
        rw [hlen, List.take_of_length_le (by rw [hlen]; omega), List.take_append, List.take_of_length_le (l := vs) (by omega), List.drop_take]
        congr 3; omega
      rw [e]
      simpa only [List.append_assoc] using hset
end
end Go.Proofs.YtjhpkkhcgpilfaaDoorK

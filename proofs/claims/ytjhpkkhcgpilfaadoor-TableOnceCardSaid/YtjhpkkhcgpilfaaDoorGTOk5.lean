/- Slices: known for good, and the call's own; strings; calls; results. -/
import Derived.Test.YtjhpkkhcgpilfaaDoorGTOk4
import Derived.Laws.Append
namespace Go.Proofs.YtjhpkkhcgpilfaaDoorK
open Go Go.RowKit
set_option linter.unusedVariables false
set_option linter.unusedSimpArgs false
abbrev In {α : Type} (xs : List α) (i : Int) : Prop := 0 ≤ i ∧ i < (xs.length : Int)
def rd {α : Type} [Inhabited α] (xs : List α) (i : Int) : α := xs.getD i.toNat default
def cut {α : Type} (xs : List α) (lo hi : Int) : List α := (xs.take hi.toNat).drop lo.toNat
/-- A slice that reads as xs, for good. -/
def Ro {α : Type} (k : Kd α) (H : Hp) (v : Value) (xs : List α) : Prop :=
  ∃ A c, v = .slice A xs.length c ∧ xs.length ≤ c ∧ (xs = [] ∨ ∃ a inner, A = some a ∧ Cells H a inner ∧ Reps k H inner xs)
theorem Ro.mono {α : Type} {k : Kd α} {H H' : Hp} {v xs} (h : Ro k H v xs) (hle : H.le H') : Ro k H' v xs := by
  obtain ⟨A, c, h1, h2, h3⟩ := h
  refine ⟨A, c, h1, h2, h3.imp id ?_⟩
  rintro ⟨a, inner, h4, h5, h6⟩
  exact ⟨a, inner, h4, h5.mono hle, h6.mono hle⟩
theorem ro_nil {α : Type} (k : Kd α) (H : Hp) : Ro k H (.slice none 0 0) [] := ⟨none, 0, rfl, Nat.le_refl _, .inl rfl⟩
def Kd.slice {α : Type} (k : Kd α) : Kd (List α) where
  sz := 1
  rep H cs xs := ∃ v, cs = [v] ∧ Ro k H v xs
  len := by rintro H _ xs ⟨v, rfl, _⟩; rfl
  mono := by rintro H H' _ xs hle ⟨v, rfl, h⟩; exact ⟨v, rfl, h.mono hle⟩
  one := by
    rintro H _ xs ⟨v, rfl, A, c, rfl, _⟩ x hx
    rcases List.mem_singleton.1 hx with rfl; rfl
/-- A slice of the call's own: nothing, or a whole block. -/
def Sl {α : Type} (k : Kd α) (H : Hp) (T : TypeId) (it : Item') (v : Value) (xs : List α) : Prop :=
  (it = none ∧ v = .slice none 0 0 ∧ xs = []) ∨ ∃ b o arr c, it = some (b, .cells arr T (0, 0)) ∧ v = .slice (some ⟨b, o, none⟩) xs.length c ∧ xs.length ≤ c ∧ o + c * k.sz ≤ arr.size ∧ Reps k H ((arr.toList.drop o).take (xs.length * k.sz)) xs
theorem drop_splice {l vs : List Value} {o i m : Nat} (h : o + i ≤ l.length) : (l.take (o + i) ++ vs ++ l.drop (o + i + m)).drop o = (l.drop o).take i ++ vs ++ (l.drop o).drop (i + m) := by
  rw [List.append_assoc, List.append_assoc, List.drop_append_of_le_length (by simp; omega), List.drop_take, List.drop_drop]
  congr 2; · congr 1; omega
  · congr 1; omega
theorem Sl.mono {α : Type} {k : Kd α} {H H' : Hp} {T it v xs} (h : Sl k H T it v xs) (hle : H.le H') : Sl k H' T it v xs := by
  rcases h with h | ⟨b, o, arr, c, h1, h2, h3, h4, h5⟩
  · exact .inl h
  · exact .inr ⟨b, o, arr, c, h1, h2, h3, h4, h5.mono hle⟩
theorem sl_nil {α : Type} (k : Kd α) (H : Hp) (T : TypeId) : Sl k H T none (.slice none 0 0) [] := .inl ⟨rfl, rfl, rfl⟩
/-- What is read now. -/
def Src {α : Type} (k : Kd α) (H : Hp) (L : Items) (v : Value) (xs : List α) : Prop :=
  ∃ A c, v = .slice A xs.length c ∧ xs.length ≤ c ∧ (xs = [] ∨ ∃ a inner, A = some a ∧ a.spot = none ∧ Lies H L a inner ∧ Reps k H inner xs)
theorem Ro.src {α : Type} {k : Kd α} {H : Hp} {v xs} {L : Items} (h : Ro k H v xs) : Src k H L v xs := by
  obtain ⟨A, c, h1, h2, h3⟩ := h
  refine ⟨A, c, h1, h2, h3.imp id ?_⟩
  rintro ⟨a, inner, h4, h5, h6⟩
  exact ⟨a, inner, h4, h5.1, h5.lies, h6⟩
theorem Sl.src {α : Type} {k : Kd α} {H : Hp} {T it v xs} {L : Items} (h : Sl k H T it v xs) (hm : Has L it) : Src k H L v xs := by
  rcases h with ⟨rfl, rfl, rfl⟩ | ⟨b, o, arr, c, rfl, rfl, h3, h4, h5⟩
  · exact ⟨none, 0, rfl, Nat.le_refl _, .inl rfl⟩
  · exact ⟨some ⟨b, o, none⟩, c, rfl, h3, .inr ⟨_, _, rfl, rfl, lies_box (H := H) hm o (xs.length * k.sz), h5⟩⟩
/-- The slice becomes known for good. -/
theorem Own.freezeSl {α : Type} {k : Kd α} {H : Hp} {w L L' T it v xs} (h : Own H w L) (hs : Sl k H T it v xs) (u : Upd L it none L') : ∃ H', H.le H' ∧ Own H' w L' ∧ Ro k H' v xs := by
  rcases hs with ⟨rfl, rfl, rfl⟩ | ⟨b, o, arr, c, rfl, rfl, h3, h4, h5⟩
  · exact ⟨H, .refl H, h.drop u, ro_nil k H⟩
  · have hle := Hp.add_le (o := .cells arr T (0, 0)) (h.has u.has).1
    refine ⟨H.add b (.cells arr T (0, 0)), hle, h.freeze u, some ⟨b, o, none⟩, c, rfl, h3, .inr ⟨_, _, rfl, ⟨rfl, arr, T, (0, 0), Hp.add_at _ _ _, fun j c' hj => ?_⟩, h5.mono hle⟩⟩
    rw [List.getElem?_take] at hj
    split at hj
    · rw [List.getElem?_drop] at hj; simpa using hj
    · cases hj
section
variable {P : Program} {f : FB} {n : Nat} {k : List Item} {σ : Nat → Value} {H : Hp} {L : Items} {R : Value → Hp → Items → Prop}
theorem w_freeze {α : Type} {kd : Kd α} {T it v xs L'} (hs : Sl kd H T it v xs) (u : Upd L it none L') (hk : ∀ H', H.le H' → Ro kd H' v xs → Wp P f n k σ H' L' R) : Wp P f n k σ H L R := by
  intro w hw
  obtain ⟨H', h1, h2, h3⟩ := hw.freezeSl hs u
  exact hk H' h1 h3 w h2
theorem w_none (hk : Wp P f n k σ H (none :: L) R) : Wp P f n k σ H L R := fun w hw => hk w ⟨hw.os, hw.tape, hw.out, hw.good, hw.held⟩
/-! ### length, places, elements -/
theorem d_len {α : Type} {kd : Kd α} {t : TypeId} {x : Operand} {v : Value} {e : TypeId} {xs : List α} (ht : P.underlying t = some (.slice e)) (hx : ev n σ x = v) (hs : Src kd H L v xs) : OpA P n σ H L (.call { callee := .builtin .len, args := #[x], argTypes := #[t] }) (Is (.int .i64 xs.length) H L) := opA_any fun o ho w => by
  obtain ⟨A, c, h1, _⟩ := hs
  unfold execOp; rw [ho]; simp [hx, h1, resolve, invoke, builtin, Builtin.len_, run_underlying ht, goInt]
def pel (v : Value) (i : Int) (sz : Nat) : Addr := match v with
  | .slice (some a) _ _ => a.add (i.toNat * sz)
  | _ => default
theorem d_index {α : Type} {kd : Kd α} {t : TypeId} {x y : Operand} {v : Value} {e : TypeId} {xs : List α} {i : Int} {K : IntKind} {sz : Nat} (ht : P.underlying t = some (.slice e)) (hsz : (P.info? e).map (·.size) = some sz) (hx : ev n σ x = v) (hs : Src kd H L v xs) (hy : ev n σ y = .int K i) (hi : In xs i) : OpA P n σ H L (.indexAddr t x y) (Is (.pointer (some (pel v i sz))) H L) := opA_any fun o ho w => by
  obtain ⟨A, c, rfl, h2, h3⟩ := hs
  rcases h3 with rfl | ⟨a, inner, rfl, _⟩
  · exact absurd hi.2 (by simp; omega)
  · unfold execOp; rw [ho]; simp [hx, hy, Instr.indexAt, asIntOf, run_underlying ht, hi.1, hi.2, run_sizeOf' hsz, pel]
theorem el_of {α : Type} [Inhabited α] {kd : Kd α} {v : Value} {xs : List α} {i : Int} (hs : Src kd H L v xs) (hi : In xs i) : ∃ cs, Lies H L (pel v i kd.sz) cs ∧ kd.rep H cs (rd xs i) := by
  obtain ⟨A, c, rfl, h2, h3⟩ := hs
  rcases h3 with rfl | ⟨a, inner, rfl, ha, h4, h5⟩
  · exact absurd hi.2 (by simp; omega)
  · have hlt : i.toNat < xs.length := by have := hi.1; have := hi.2; omega
    refine ⟨_, h4.sub ha (i.toNat * kd.sz) kd.sz, ?_⟩
    have := h5.get i.toNat hlt
    unfold rd; rw [List.getD_eq_getElem?_getD, List.getElem?_eq_getElem hlt]; exact this
theorem el_ro {α : Type} [Inhabited α] {kd : Kd α} {v : Value} {xs : List α} {i : Int} (hs : Ro kd H v xs) (hi : In xs i) : ∃ cs, Cells H (pel v i kd.sz) cs ∧ kd.rep H cs (rd xs i) := by
  obtain ⟨A, c, rfl, h2, h3⟩ := hs
  rcases h3 with rfl | ⟨a, inner, rfl, h4, h5⟩
  · exact absurd hi.2 (by simp; omega)
  · have hlt : i.toNat < xs.length := by have := hi.1; have := hi.2; omega
    refine ⟨_, h4.sub (i.toNat * kd.sz) kd.sz, ?_⟩
    have := h5.get i.toNat hlt
    unfold rd; rw [List.getD_eq_getElem?_getD, List.getElem?_eq_getElem hlt]; exact this
/-- An element of one cell whose value its datum tells. -/
theorem d_ldel {α : Type} [Inhabited α] {enc : α → Value} {h1 : ∀ a, (enc a).oneCell' = true} {t : TypeId} {x : Operand} {v : Value} {xs : List α} {i : Int} (ht : TyA P t false 1) (hx : ev n σ x = .pointer (some (pel v i 1))) (hs : Src (Kd.cell enc h1) H L v xs) (hi : In xs i) : OpA P n σ H L (.load t x) (Is (enc (rd xs i)) H L) := by
  obtain ⟨cs, h2, h3⟩ := el_of hs hi
  exact d_load ht hx (Kd.len _ h3) (fun _ => rfl) h2 (by rw [show cs = [enc (rd xs i)] from h3]; rfl)
theorem d_ldint {K : IntKind} {t : TypeId} {x : Operand} {v : Value} {xs : List Int} {i : Int} (ht : TyA P t false 1) (hx : ev n σ x = .pointer (some (pel v i 1))) (hs : Src (Kd.int K) H L v xs) (hi : In xs i) : OpA P n σ H L (.load t x) (Is (.int K (rd xs i)) H L) := d_ldel ht hx hs hi
/-! ### writing -/
theorem o_storeEl {α : Type} {kd : Kd α} {t : TypeId} {x y : Operand} {s : Value} {T : TypeId} {it : Item'} {xs : List α} {i : Int} {z : α} {v : Value} {vs : List Value} {F : Item' → Items} (hsz : (P.info? t).map (·.size) = some kd.sz) (hx : ev n σ x = .pointer (some (pel s i kd.sz))) (hy : ev n σ y = v) (hv : v.cells = ⟨vs⟩) (hz : kd.rep H vs z) (hs : Sl kd H T it s xs) (hi : In xs i) (hu : ∀ it', Upd L it it' (F it')) :
    OpA P n σ H L (.store t x y) (fun v' H' L'' => ∃ it', v' = undef ∧ H = H' ∧ L'' = F it' ∧ Sl kd H T it' s (xs.set i.toNat z)) := fun o ho => opr_run fun w hw => by
  have hlt : i.toNat < xs.length := by have := hi.1; have := hi.2; omega
  rcases hs with ⟨rfl, rfl, rfl⟩ | ⟨b, off, arr, c, rfl, rfl, h3, h4, h5⟩
  · simp at hlt
  · have hl := kd.len hz
    have hpel : pel (.slice (some ⟨b, off, none⟩) xs.length c) i kd.sz = ⟨b, off + i.toNat * kd.sz, none⟩ := by
      show Addr.add ⟨b, off, none⟩ (i.toNat * kd.sz) = _
      rw [addr_add rfl]
    have hle : i.toNat * kd.sz + kd.sz ≤ xs.length * kd.sz := by rw [← Nat.succ_mul]; exact Nat.mul_le_mul_right _ hlt
    have hle2 : xs.length * kd.sz ≤ c * kd.sz := Nat.mul_le_mul_right _ h3
    obtain ⟨w', h6, h7, h8, h9, h10, h11⟩ := run_storeCells (P := P) (off := off + i.toNat * kd.sz) vs 0 arr w (hw.has (hu none).has).2 (by omega) (kd.one hz)
    refine ⟨undef, w', H, _, .inr ⟨?_, rfl⟩, hw.put (hu _) h7 h8 h9 h10 fun c _ hc => h11 c hc, _, rfl, rfl, rfl, .inr ⟨b, off, _, c, rfl, ?_, ?_, ?_, ?_⟩⟩
    · unfold execOp; rw [ho]
      rw [hpel] at hx
      simp [hx, hy, Instr.storeAt, Instr.sureAddr, storeVar, hv, hl, run_sizeOf' hsz, h6]
    · rw [List.length_set]
    · rw [List.length_set]; exact h3
    · simp; omega
    · have := h5.set i.toNat vs z hlt hz
      rw [List.length_set]
      have e : ((arr.toList.take (off + i.toNat * kd.sz + 0) ++ vs ++ arr.toList.drop (off + i.toNat * kd.sz + 0 + vs.length)).drop off).take (xs.length * kd.sz) = ((arr.toList.drop off).take (xs.length * kd.sz)).take (i.toNat * kd.sz) ++ vs ++ ((arr.toList.drop off).take (xs.length * kd.sz)).drop (i.toNat * kd.sz + kd.sz) := by
        simp only [Nat.add_zero, hl]
        rw [drop_splice (by simp; omega)]
        generalize hg : arr.toList.drop off = l
        have hll : l.length = arr.size - off := by rw [← hg]; simp
        rw [List.append_assoc, List.append_assoc]
        rw [List.take_take, show min (i.toNat * kd.sz) (xs.length * kd.sz) = i.toNat * kd.sz by omega, List.take_append]
        have hlen : (l.take (i.toNat * kd.sz)).length = i.toNat * kd.sz := by simp; omega
        rw [hlen, List.take_of_length_le (by rw [hlen]; omega), List.take_append, hl, List.take_of_length_le (l := vs) (by rw [hl]; omega), List.drop_take]
        congr 3; omega
      rw [e]; exact this
theorem nextcap_le {need old : Nat} (h : old < need) : Builtin.nextslicecap need old ≤ 2 * need + 192 := by
  have hg : ∀ m c, c ≤ 2 * need + 192 → Builtin.growBy need m c ≤ 2 * need + 192 := by
    intro m
    induction m with
    | zero => intro c hc; exact hc
    | succ m ih =>
      intro c hc
      simp only [Builtin.growBy]
      split
      · exact hc
      · exact ih _ (by omega)
  unfold Builtin.nextslicecap
  split
  · omega
  · split
    · omega
    · exact hg _ _ (by omega)
theorem zeros_toList (z : Array Value) (m : Nat) : (Builtin.zeroCells z m).toList = (List.replicate m z.toList).flatten := by
  unfold Builtin.zeroCells
  apply List.ext_getElem?
  intro i
  by_cases hz : z.size = 0
  · have : z.toList = [] := by have : z = #[] := Array.eq_empty_of_size_eq_zero hz
                               rw [this]
    simp [hz, this]
  · have hfl : ∀ (m i : Nat), ((List.replicate m z.toList).flatten)[i]? = if i < m * z.size then z.toList[i % z.size]? else none := by
      intro m
      induction m with
      | zero => intro i; simp
      | succ m ih =>
        intro i
        rw [List.replicate_succ, List.flatten_cons, List.getElem?_append]
        by_cases h : i < z.size
        · rw [if_pos (by simpa using h), if_pos (by rw [Nat.succ_mul]; omega), Nat.mod_eq_of_lt h]
        · rw [if_neg (by simpa using h), ih]
          simp only [Array.length_toList]
          rw [show (i - z.size) % z.size = i % z.size from (Nat.mod_eq_sub_mod (by omega)).symm]
          have : (i - z.size < m * z.size) ↔ (i < (m + 1) * z.size) := by rw [Nat.succ_mul]; omega
          simp only [this]
    rw [hfl]
    have hmod : i % z.size < z.size := Nat.mod_lt _ (by omega)
    by_cases h : i < m * z.size
    · rw [if_pos h]
      simp [h, hmod, getElem!_pos]
    · rw [if_neg h]; simp; omega
theorem held_new {H : Hp} {w w' : World} {b' : Nat} {o' : Obj} {it : Item'} {L L'} (u : Upd L it (some (b', o')) L') (h : Held H w L) (hb : b' ∉ keys L) (h1 : H.at_ b' = none) (h2 : w'.heap[b']? = some o') (hc : ∀ c ∈ keys L, w'.heap[c]? = w.heap[c]?) : Held H w' L' := by
  generalize e : some (b', o') = it' at u
  induction u with
  | @here l a it' =>
    subst e
    refine ⟨⟨h1, h2, fun hm => hb ?_⟩, ?_⟩
    · cases a with
      | none => exact hm
      | some a => exact List.mem_cons_of_mem _ hm
    · cases a with
      | none => exact held_other h fun c hm => ⟨hc c hm, held_none h c hm⟩
      | some a => exact held_other h.2 fun c hm => ⟨hc c (List.mem_cons_of_mem _ hm), held_none h.2 c hm⟩
  | @there l a it' l' c u ih =>
    subst e
    cases c with
    | none => exact ih h hb hc rfl
    | some p =>
      have h3 := hc p.1 (List.mem_cons_self ..)
      refine ⟨⟨h.1.1, h3.trans h.1.2.1, fun hm => ?_⟩, ih h.2 (fun hm => hb (List.mem_cons_of_mem _ hm)) (fun c hm => hc c (List.mem_cons_of_mem _ hm)) rfl⟩
      rcases keys_upd u _ hm with hm | ⟨o, e⟩
      · exact h.1.2.2 hm
      · cases e; exact hb (List.mem_cons_self ..)
theorem Own.renew {H w L it L'} {o : Obj} (h : Own H w L) (u : Upd L it (some (w.heap.size, o)) L') {w' : World} (ho : w'.os = w.os) (ht : w'.tape = w.tape) (hu : w'.output = w.output) (hh : w'.heap = w.heap.push o) : Own H w' L' := by
  have hlt : ∀ b, b < w.heap.size → w'.heap[b]? = w.heap[b]? := fun b hb => by rw [hh, Array.getElem?_push, if_neg (by omega)]
  refine ⟨ho.trans h.os, ht.trans h.tape, hu.trans h.out, fun b p e => (hlt b (good_lt h e)).trans (h.good b p e), held_new u h.held (fun hm => ?_) ?_ (by rw [hh]; simp) fun c hc => hlt c (keys_lt h.held c hc)⟩
  · have := keys_lt h.held _ hm; omega
  · cases e : H.at_ w.heap.size with
    | none => rfl
    | some p => exact absurd (good_lt h e) (by omega)
theorem run_firstCells {w : World} {size m c : Nat} {A : Option Addr} {inner : List Value} (hl : inner.length = m * size) (hA : (m * size = 0 ∨ A.isSome = true)) (hc : ∀ a, A = some a → ∀ j v, inner[j]? = some v → w.cell? (a.add j) = some v) : (Builtin.firstCells size m (.slice A m c)).run P w = .ok ⟨inner⟩ w := by
  cases A with
  | none =>
    have : inner = [] := List.eq_nil_of_length_eq_zero (by rw [hl]; simpa using hA)
    subst this; rfl
  | some a =>
    have := run_loadCells_list (P := P) w a inner (hc a rfl)
    simp [Builtin.firstCells, ← hl, this]
theorem grownCap_ge (w : World) (need old : Nat) (e : TypeId) : need ≤ grownCap w need old e := by
  unfold grownCap; simp only [Question.cut]; omega
/-- append(s, x...): in place, or into a new block. -/
theorem o_append {α : Type} {kd : Kd α} {t tx e : TypeId} {x y : Operand} {s v : Value} {it : Item'} {xs ys : List α} {z : Value} {e' : TypeId} {F : Item' → Items} {i : TypeInfo} (ht : P.underlying t = some (.slice e)) (htx : P.underlying tx = some (.slice e')) (hi : P.info? e = some i) (hsz : i.size = kd.sz) (hz : i.zero = some z) (hzl : Nat.beq z.cells.size kd.sz = true) (hb : (2 * (xs.length + ys.length) + 192) * i.bytes ≤ 281474976710656) (hb2 : xs.length + ys.length ≤ 9223372036854775807)
    (hx : ev n σ x = s) (hy : ev n σ y = v) (hs : Sl kd H e it s xs) (hv : Src kd H L v ys) (hu : ∀ it', Upd L it it' (F it')) :
    OpA P n σ H L (.call { callee := .builtin .append, args := #[x, y], argTypes := #[t, tx] }) (fun v' H' L' => ∃ it', H = H' ∧ L' = F it' ∧ Sl kd H e it' v' (xs ++ ys)) := fun o ho => opr_run fun w hw => by
  obtain ⟨A, c', rfl, hc', hA⟩ := hv
  obtain ⟨news, hnl, hnr, hnA, hnc⟩ : ∃ news : List Value, news.length = ys.length * kd.sz ∧ Reps kd H news ys ∧ (ys.length * kd.sz = 0 ∨ A.isSome = true) ∧ ∀ a, A = some a → ∀ j v, news[j]? = some v → w.cell? (a.add j) = some v := by
    rcases hA with rfl | ⟨a, inner, rfl, _, h4, h5⟩
    · exact ⟨[], by simp, rfl, by simp, by simp⟩
    · exact ⟨inner, h5.len, h5, .inr rfl, fun a' e => by cases e; exact h4 w hw⟩
  have hnew : ∀ w' : World, w'.heap = w.heap → (Builtin.firstCells kd.sz ys.length (.slice A ys.length c')).run P w' = .ok ⟨news⟩ w' := fun w' hw' => run_firstCells hnl hnA fun a ha j v hj => by
    have := hnc a ha j v hj; simpa [World.cell?, hw'] using this
  have hone := hnr.one
  have hzl := Nat.eq_of_beq_eq_true hzl
  have hnew0 := hnew w rfl
  have hnew1 := hnew w.drew rfl
  rcases hs with ⟨rfl, rfl, rfl⟩ | ⟨b, off, arr, c, rfl, rfl, h3, h4, h5⟩
  · by_cases hy0 : ys.length = 0
    · have hys : ys = [] := List.eq_nil_of_length_eq_zero hy0
      subst hys
      refine ⟨.slice none 0 0, w, H, _, .inl ?_, (by have := hw.drop (hu none); exact this), none, rfl, rfl, .inl ⟨rfl, rfl, rfl⟩⟩
      unfold execOp; rw [ho]
      simp only [List.length_nil] at hnew0
      simp [hx, hy, resolve, invoke, builtin, Builtin.append_, run_underlying ht, run_underlying htx, sizeOf, typeInfo, hi, hsz, Builtin.lenOf, hnew0]
    · have h48 : ¬ (281474976710656 < Builtin.nextslicecap ys.length 0 * i.bytes) := by
        have := Nat.mul_le_mul_right i.bytes (nextcap_le (need := ys.length) (old := 0) (by omega))
        simp at hb; omega
      have h63 : ¬ (9223372036854775807 < (ys.length : Int)) := by simp at hb2; omega
      have hge := grownCap_ge w ys.length 0 e
      generalize hgc : grownCap w ys.length 0 e = g at hge
      refine ⟨.slice (some ⟨w.heap.size, 0, none⟩) ys.length g, w.drew.alloc (.cells (⟨news⟩ ++ Builtin.zeroCells z.cells (g - ys.length)) e (0, 0)), H, F (some (w.heap.size, .cells (⟨news⟩ ++ Builtin.zeroCells z.cells (g - ys.length)) e (0, 0))), .inl ?_, hw.renew (hu _) rfl rfl rfl rfl, _, rfl, rfl, .inr ⟨_, 0, _, g, rfl, rfl, by simpa using hge, ?_, ?_⟩⟩
      · unfold execOp; rw [ho]
        unfold grownCap at hgc
        simp [hx, hy, resolve, invoke, builtin, Builtin.append_, run_underlying ht, run_underlying htx, sizeOf, typeInfo, zeroValue, hi, hz, hsz, Builtin.lenOf, hy0, h63, h48, Question.forced, run_firstCells_none, newRow, hnew1, hgc]
        all_goals (try rfl)
      · refine Nat.le_of_eq ?_; simp [Builtin.zeroCells, hnl, hzl]; rw [← Nat.add_mul]; congr 1; omega
      · rw [List.drop_zero, List.nil_append, Array.toList_append, List.take_append_of_le_length (by simp [hnl]), List.take_of_length_le (by simp [hnl])]; exact hnr
  · have hle2 : xs.length * kd.sz ≤ c * kd.sz := Nat.mul_le_mul_right _ h3
    by_cases hroom : xs.length + ys.length ≤ c
    · -- in place
      have hle3 : xs.length * kd.sz + ys.length * kd.sz ≤ c * kd.sz := by rw [← Nat.add_mul]; exact Nat.mul_le_mul_right _ hroom
      obtain ⟨w', h6, h7, h8, h9, h10, h11⟩ := run_storeCells (P := P) (off := off + xs.length * kd.sz) news 0 arr w (hw.has (hu none).has).2 (by rw [hnl]; omega) hone
      refine ⟨.slice (some ⟨b, off, none⟩) (xs.length + ys.length) c, w', H, _, .inl ?_, hw.put (hu _) h7 h8 h9 h10 fun c _ hc => h11 c hc, _, rfl, rfl, .inr ⟨b, off, _, c, rfl, by simp, by simpa using hroom, ?_, ?_⟩⟩
      · unfold execOp; rw [ho]
        simp [hx, hy, resolve, invoke, builtin, Builtin.append_, run_underlying ht, run_underlying htx, sizeOf, typeInfo, hi, hsz, Builtin.lenOf, hroom, hnew0, addr_add (a := ⟨b, off, none⟩) rfl, h6]
      · simp [hnl]; omega
      · have e : ((arr.toList.take (off + xs.length * kd.sz + 0) ++ news ++ arr.toList.drop (off + xs.length * kd.sz + 0 + news.length)).drop off).take ((xs ++ ys).length * kd.sz) = (arr.toList.drop off).take (xs.length * kd.sz) ++ news := by
          rw [Nat.add_zero, drop_splice (by simp; omega), List.length_append, Nat.add_mul, List.take_append_of_le_length (by simp [hnl]; omega), List.take_of_length_le (by simp [hnl]; omega)]
        rw [e]; exact h5.append hnr
    · -- into a new block
      have hlt : c < xs.length + ys.length := by omega
      have h48 : ¬ (281474976710656 < Builtin.nextslicecap (xs.length + ys.length) c * i.bytes) := by
        have := Nat.mul_le_mul_right i.bytes (nextcap_le hlt)
        omega
      have h63 : ¬ (9223372036854775807 < ((xs.length : Int) + (ys.length : Int))) := by omega
      have hge := grownCap_ge w (xs.length + ys.length) c e
      generalize hgc : grownCap w (xs.length + ys.length) c e = g at hge
      have hold : (Builtin.firstCells kd.sz xs.length (.slice (some ⟨b, off, none⟩) xs.length c)).run P w.drew = .ok ⟨(arr.toList.drop off).take (xs.length * kd.sz)⟩ w.drew := by
        refine run_firstCells (by simp; omega) (.inr rfl) fun a ha j v hj => ?_
        cases ha
        exact lies_box (H := H) (hu none).has off (xs.length * kd.sz) w hw j v hj
      refine ⟨.slice (some ⟨w.heap.size, 0, none⟩) (xs.length + ys.length) g, w.drew.alloc (.cells (⟨(arr.toList.drop off).take (xs.length * kd.sz)⟩ ++ ⟨news⟩ ++ Builtin.zeroCells z.cells (g - (xs.length + ys.length))) e (0, 0)), H, F (some (w.heap.size, .cells (⟨(arr.toList.drop off).take (xs.length * kd.sz)⟩ ++ ⟨news⟩ ++ Builtin.zeroCells z.cells (g - (xs.length + ys.length))) e (0, 0))), .inl ?_, hw.renew (hu _) rfl rfl rfl rfl, _, rfl, rfl, .inr ⟨_, 0, _, g, rfl, by simp, by simpa using hge, ?_, ?_⟩⟩
      · unfold execOp; rw [ho]
        unfold grownCap at hgc
        simp [hx, hy, resolve, invoke, builtin, Builtin.append_, run_underlying ht, run_underlying htx, sizeOf, typeInfo, zeroValue, hi, hz, hsz, Builtin.lenOf, hroom, h63, h48, Question.forced, newRow, hnew1, hold, hgc]
        congr 2
        apply Array.ext'
        simp
      · have hlen : ((arr.toList.drop off).take (xs.length * kd.sz)).length = xs.length * kd.sz := by simp; omega
        refine Nat.le_of_eq ?_
        simp only [Array.size_append, List.size_toArray, hlen, hnl, Builtin.zeroCells, Array.size_map, Array.size_range, hzl]
        rw [Nat.zero_add, ← Nat.add_mul, ← Nat.add_mul]; congr 1; omega
      · have hlen : ((arr.toList.drop off).take (xs.length * kd.sz)).length = xs.length * kd.sz := by simp; omega
        rw [List.drop_zero, Array.toList_append, Array.toList_append, List.length_append, Nat.add_mul, List.take_append_of_le_length (by simp [hnl]; omega), List.take_of_length_le (by simp [hnl]; omega)]
        exact h5.append hnr
end
end Go.Proofs.YtjhpkkhcgpilfaaDoorK

/- Slices: known for good, and the call's own; strings; calls; results. -/
import Derived.Test.YtoijknggnlbopaaDoorGCRk4
import Derived.Laws.Append
namespace Go.Proofs.YtoijknggnlbopaaDoorK
open Go Go.RowKit
set_option linter.unusedVariables false
set_option linter.unusedSimpArgs false
abbrev In {α : Type} (xs : List α) (i : Int) : Prop := 0 ≤ i ∧ i < (xs.length : Int)
def rd {α : Type} [Inhabited α] (xs : List α) (i : Int) : α := xs.getD i.toNat default
def Ro {α : Type} (k : Kd α) (H : Hp) (v : Value) (xs : List α) : Prop :=
  ∃ A c, v = .slice A xs.length c ∧ xs.length ≤ c ∧ (xs = [] ∨ ∃ a inner, A = some a ∧ Cells H a inner ∧ Reps k H inner xs)
theorem Ro.mono {α : Type} {k : Kd α} {H H' : Hp} {v xs} (h : Ro k H v xs) (hle : H.le H') : Ro k H' v xs := by
  obtain ⟨A, c, h1, h2, h3⟩ := h
  refine ⟨A, c, h1, h2, h3.imp id ?_⟩
  rintro ⟨a, inner, h4, h5, h6⟩
  exact ⟨a, inner, h4, h5.mono hle, h6.mono hle⟩
theorem ro_nil {α : Type} (k : Kd α) (H : Hp) : Ro k H (.slice none 0 0) [] := ⟨none, 0, rfl, Nat.le_refl _, .inl rfl⟩
def Kd.slice {α : Type} (k : Kd α) : Kd (List α) where
  sz := 1
  rep H cs xs := ∃ v, cs = [v] ∧ Ro k H v xs
  len := by rintro H _ xs ⟨v, rfl, _⟩; rfl
  mono := by rintro H H' _ xs hle ⟨v, rfl, h⟩; exact ⟨v, rfl, h.mono hle⟩
  one := by
    rintro H _ xs ⟨v, rfl, A, c, rfl, _⟩ x hx
    rcases List.mem_singleton.1 hx with rfl; rfl
def Sl {α : Type} (k : Kd α) (H : Hp) (T : TypeId) (it : Item') (v : Value) (xs : List α) : Prop :=
  (it = none ∧ v = .slice none 0 0 ∧ xs = []) ∨ ∃ b o arr c, it = some (b, .cells arr T (0, 0)) ∧ v = .slice (some ⟨b, o, none⟩) xs.length c ∧ xs.length ≤ c ∧ o + c * k.sz ≤ arr.size ∧ Reps k H ((arr.toList.drop o).take (xs.length * k.sz)) xs
theorem drop_splice {l vs : List Value} {o i m : Nat} (h : o + i ≤ l.length) : (l.take (o + i) ++ vs ++ l.drop (o + i + m)).drop o = (l.drop o).take i ++ vs ++ (l.drop o).drop (i + m) := by
  rw [List.append_assoc, List.append_assoc, List.drop_append_of_le_length (by simp; omega), List.drop_take, List.drop_drop]
  congr 2; · congr 1; omega
  · congr 1; omega
theorem Sl.mono {α : Type} {k : Kd α} {H H' : Hp} {T it v xs} (h : Sl k H T it v xs) (hle : H.le H') : Sl k H' T it v xs := by
  rcases h with h | ⟨b, o, arr, c, h1, h2, h3, h4, h5⟩
  · exact .inl h
  · exact .inr ⟨b, o, arr, c, h1, h2, h3, h4, h5.mono hle⟩
def Src {α : Type} (k : Kd α) (H : Hp) (L : Items) (v : Value) (xs : List α) : Prop :=
  ∃ A c, v = .slice A xs.length c ∧ xs.length ≤ c ∧ (xs = [] ∨ ∃ a inner, A = some a ∧ a.spot = none ∧ Lies H L a inner ∧ Reps k H inner xs)
theorem Ro.src {α : Type} {k : Kd α} {H : Hp} {v xs} {L : Items} (h : Ro k H v xs) : Src k H L v xs := by
  obtain ⟨A, c, h1, h2, h3⟩ := h
  refine ⟨A, c, h1, h2, h3.imp id ?_⟩
  rintro ⟨a, inner, h4, h5, h6⟩
  exact ⟨a, inner, h4, h5.1, h5.lies, h6⟩
theorem Sl.src {α : Type} {k : Kd α} {H : Hp} {T it v xs} {L : Items} (h : Sl k H T it v xs) (hm : Has L it) : Src k H L v xs := by
  rcases h with ⟨rfl, rfl, rfl⟩ | ⟨b, o, arr, c, rfl, rfl, h3, h4, h5⟩
  · exact ⟨none, 0, rfl, Nat.le_refl _, .inl rfl⟩
  · exact ⟨some ⟨b, o, none⟩, c, rfl, h3, .inr ⟨_, _, rfl, rfl, lies_box (H := H) hm o (xs.length * k.sz), h5⟩⟩
section
variable {P : Program} {f : FuncId} {n : Nat} {k : List Item} {σ : Nat → Value} {H : Hp} {L : Items} {R : Value → Hp → Items → Prop}
theorem w_none (hk : Wp P f n k σ H (none :: L) R) : Wp P f n k σ H L R := fun w hw => hk w ⟨hw.os, hw.tape, hw.out, hw.good, hw.held⟩
theorem d_len {α : Type} {kd : Kd α} {t : TypeId} {x : Operand} {v : Value} {e : TypeId} {xs : List α} (ht : P.underlying t = some (.slice e)) (hx : ev n σ x = v) (hs : Src kd H L v xs) : OpA P n σ H L (.call { callee := .builtin .len, args := #[x], argTypes := #[t] }) (Is (.int .i64 xs.length) H L) := opA_any fun o ho w => by
  obtain ⟨A, c, h1, _⟩ := hs
  unfold execOp; rw [ho]; simp [hx, h1, resolve, invoke, builtin, Builtin.len_, run_underlying ht, goInt]
def pel (v : Value) (i : Int) (sz : Nat) : Addr := match v with
  | .slice (some a) _ _ => a.add (i.toNat * sz)
  | _ => default
theorem d_index {α : Type} {kd : Kd α} {t : TypeId} {x y : Operand} {v : Value} {e : TypeId} {xs : List α} {i : Int} {K : IntKind} {sz : Nat} (ht : P.underlying t = some (.slice e)) (hsz : (P.info? e).map (·.size) = some sz) (hx : ev n σ x = v) (hs : Src kd H L v xs) (hy : ev n σ y = .int K i) (hi : In xs i) : OpA P n σ H L (.indexAddr t x y) (Is (.pointer (some (pel v i sz))) H L) := opA_any fun o ho w => by
  obtain ⟨A, c, rfl, h2, h3⟩ := hs
  rcases h3 with rfl | ⟨a, inner, rfl, _⟩
  · exact absurd hi.2 (by simp; omega)
  · unfold execOp; rw [ho]; simp [hx, hy, Instr.indexAt, asIntOf, run_underlying ht, hi.1, hi.2, run_sizeOf' hsz, pel]
theorem el_of {α : Type} [Inhabited α] {kd : Kd α} {v : Value} {xs : List α} {i : Int} (hs : Src kd H L v xs) (hi : In xs i) : ∃ cs, Lies H L (pel v i kd.sz) cs ∧ kd.rep H cs (rd xs i) := by
  obtain ⟨A, c, rfl, h2, h3⟩ := hs
  rcases h3 with rfl | ⟨a, inner, rfl, ha, h4, h5⟩
  · exact absurd hi.2 (by simp; omega)
  · have hlt : i.toNat < xs.length := by have := hi.1; have := hi.2; omega
    refine ⟨_, h4.sub ha (i.toNat * kd.sz) kd.sz, ?_⟩
    have := h5.get i.toNat hlt
    unfold rd; rw [List.getD_eq_getElem?_getD, List.getElem?_eq_getElem hlt]; exact this
theorem el_ro {α : Type} [Inhabited α] {kd : Kd α} {v : Value} {xs : List α} {i : Int} (hs : Ro kd H v xs) (hi : In xs i) : ∃ cs, Cells H (pel v i kd.sz) cs ∧ kd.rep H cs (rd xs i) := by
  obtain ⟨A, c, rfl, h2, h3⟩ := hs
  rcases h3 with rfl | ⟨a, inner, rfl, h4, h5⟩
  · exact absurd hi.2 (by simp; omega)
  · have hlt : i.toNat < xs.length := by have := hi.1; have := hi.2; omega
    refine ⟨_, h4.sub (i.toNat * kd.sz) kd.sz, ?_⟩
    have := h5.get i.toNat hlt
    unfold rd; rw [List.getD_eq_getElem?_getD, List.getElem?_eq_getElem hlt]; exact this
theorem d_ldel {α : Type} [Inhabited α] {enc : α → Value} {h1 : ∀ a, (enc a).oneCell' = true} {t : TypeId} {x : Operand} {v : Value} {xs : List α} {i : Int} (ht : TyA P t false 1) (hx : ev n σ x = .pointer (some (pel v i 1))) (hs : Src (Kd.cell enc h1) H L v xs) (hi : In xs i) : OpA P n σ H L (.load t x) (Is (enc (rd xs i)) H L) := by
  obtain ⟨cs, h2, h3⟩ := el_of hs hi
  exact d_load ht hx (Kd.len _ h3) (fun _ => rfl) h2 (by rw [show cs = [enc (rd xs i)] from h3]; rfl)
theorem d_ldint {K : IntKind} {t : TypeId} {x : Operand} {v : Value} {xs : List Int} {i : Int} (ht : TyA P t false 1) (hx : ev n σ x = .pointer (some (pel v i 1))) (hs : Src (Kd.int K) H L v xs) (hi : In xs i) : OpA P n σ H L (.load t x) (Is (.int K (rd xs i)) H L) := d_ldel ht hx hs hi
theorem o_storeEl {α : Type} {kd : Kd α} {t : TypeId} {x y : Operand} {s : Value} {T : TypeId} {it : Item'} {xs : List α} {i : Int} {z : α} {v : Value} {vs : List Value} {F : Item' → Items} (hsz : (P.info? t).map (·.size) = some kd.sz) (hx : ev n σ x = .pointer (some (pel s i kd.sz))) (hy : ev n σ y = v) (hv : v.cells = ⟨vs⟩) (hz : kd.rep H vs z) (hs : Sl kd H T it s xs) (hi : In xs i) (hu : ∀ it', Upd L it it' (F it')) :
    OpA P n σ H L (.store t x y) (fun v' H' L'' => ∃ it', v' = undef ∧ H = H' ∧ L'' = F it' ∧ Sl kd H T it' s (xs.set i.toNat z)) := fun o ho => opr_run fun w hw => by
  have hlt : i.toNat < xs.length := by have := hi.1; have := hi.2; omega
  rcases hs with ⟨rfl, rfl, rfl⟩ | ⟨b, off, arr, c, rfl, rfl, h3, h4, h5⟩
  · simp at hlt
  · have hl := kd.len hz
    have hpel : pel (.slice (some ⟨b, off, none⟩) xs.length c) i kd.sz = ⟨b, off + i.toNat * kd.sz, none⟩ := by
      show Addr.add ⟨b, off, none⟩ (i.toNat * kd.sz) = _
      rw [addr_add rfl]
    have hle : i.toNat * kd.sz + kd.sz ≤ xs.length * kd.sz := by rw [← Nat.succ_mul]; exact Nat.mul_le_mul_right _ hlt
    have hle2 : xs.length * kd.sz ≤ c * kd.sz := Nat.mul_le_mul_right _ h3
    obtain ⟨w', h6, h7, h8, h9, h10, h11⟩ := run_storeCells (P := P) (off := off + i.toNat * kd.sz) vs 0 arr w (hw.has (hu none).has).2 (by omega) (kd.one hz)
    refine ⟨undef, w', H, _, .inr ⟨?_, rfl⟩, hw.put (hu _) h7 h8 h9 h10 fun c _ hc => h11 c hc, _, rfl, rfl, rfl, .inr ⟨b, off, _, c, rfl, ?_, ?_, ?_, ?_⟩⟩
    · unfold execOp; rw [ho]
      rw [hpel] at hx
      simp [hx, hy, Instr.storeAt, Instr.sureAddr, storeVar, hv, hl, run_sizeOf' hsz, h6]
    · rw [List.length_set]
    · rw [List.length_set]; exact h3
    · simp; omega
    · have := h5.set i.toNat vs z hlt hz
      rw [List.length_set]
      have e : ((arr.toList.take (off + i.toNat * kd.sz + 0) ++ vs ++ arr.toList.drop (off + i.toNat * kd.sz + 0 + vs.length)).drop off).take (xs.length * kd.sz) = ((arr.toList.drop off).take (xs.length * kd.sz)).take (i.toNat * kd.sz) ++ vs ++ ((arr.toList.drop off).take (xs.length * kd.sz)).drop (i.toNat * kd.sz + kd.sz) := by
        simp only [Nat.add_zero, hl]
        rw [drop_splice (by simp; omega)]
        generalize hg : arr.toList.drop off = l
        have hll : l.length = arr.size - off := by rw [← hg]; simp
        rw [List.append_assoc, List.append_assoc]
        rw [List.take_take, show min (i.toNat * kd.sz) (xs.length * kd.sz) = i.toNat * kd.sz by omega, List.take_append]
        have hlen : (l.take (i.toNat * kd.sz)).length = i.toNat * kd.sz := by simp; omega
        rw [hlen, List.take_of_length_le (by rw [hlen]; omega), List.take_append, hl, List.take_of_length_le (l := vs) (by rw [hl]; omega), List.drop_take]
        congr 3; omega
      rw [e]; exact this
theorem zeros_toList (z : Array Value) (m : Nat) : (Builtin.zeroCells z m).toList = (List.replicate m z.toList).flatten := by
  unfold Builtin.zeroCells
  apply List.ext_getElem?
  intro i
  by_cases hz : z.size = 0
  · have : z.toList = [] := by have : z = #[] := Array.eq_empty_of_size_eq_zero hz
                               rw [this]
    simp [hz, this]
  · have hfl : ∀ (m i : Nat), ((List.replicate m z.toList).flatten)[i]? = if i < m * z.size then z.toList[i % z.size]? else none := by
      intro m
      induction m with
      | zero => intro i; simp
      | succ m ih =>
        intro i
        rw [List.replicate_succ, List.flatten_cons, List.getElem?_append]
        by_cases h : i < z.size
        · rw [if_pos (by simpa using h), if_pos (by rw [Nat.succ_mul]; omega), Nat.mod_eq_of_lt h]
        · rw [if_neg (by simpa using h), ih]
          simp only [Array.length_toList]
          rw [show (i - z.size) % z.size = i % z.size from (Nat.mod_eq_sub_mod (by omega)).symm]
          have : (i - z.size < m * z.size) ↔ (i < (m + 1) * z.size) := by rw [Nat.succ_mul]; omega
          simp only [this]
    rw [hfl]
    have hmod : i % z.size < z.size := Nat.mod_lt _ (by omega)
    by_cases h : i < m * z.size
    · rw [if_pos h]
      simp [h, hmod, getElem!_pos]
    · rw [if_neg h]; simp; omega
theorem held_new {H : Hp} {w w' : World} {b' : Nat} {o' : Obj} {it : Item'} {L L'} (u : Upd L it (some (b', o')) L') (h : Held H w L) (hb : b' ∉ keys L) (h1 : H.at_ b' = none) (h2 : w'.heap[b']? = some o') (hc : ∀ c ∈ keys L, w'.heap[c]? = w.heap[c]?) : Held H w' L' := by
  generalize e : some (b', o') = it' at u
  induction u with
  | @here l a it' =>
    subst e
    refine ⟨⟨h1, h2, fun hm => hb ?_⟩, ?_⟩
    · cases a with
      | none => exact hm
      | some a => exact List.mem_cons_of_mem _ hm
    · cases a with
      | none => exact held_other h fun c hm => ⟨hc c hm, held_none h c hm⟩
      | some a => exact held_other h.2 fun c hm => ⟨hc c (List.mem_cons_of_mem _ hm), held_none h.2 c hm⟩
  | @there l a it' l' c u ih =>
    subst e
    cases c with
    | none => exact ih h hb hc rfl
    | some p =>
      have h3 := hc p.1 (List.mem_cons_self ..)
      refine ⟨⟨h.1.1, h3.trans h.1.2.1, fun hm => ?_⟩, ih h.2 (fun hm => hb (List.mem_cons_of_mem _ hm)) (fun c hm => hc c (List.mem_cons_of_mem _ hm)) rfl⟩
      rcases keys_upd u _ hm with hm | ⟨o, e⟩
      · exact h.1.2.2 hm
      · cases e; exact hb (List.mem_cons_self ..)
end
end Go.Proofs.YtoijknggnlbopaaDoorK

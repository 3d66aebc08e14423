/- Kinds of data, and what of them lies in memory; loads, stores, new blocks. -/
import Derived.Test.YtjhpkkhcgpilfaaDoorGTOk3
import Derived.Laws.Cells
namespace Go.Proofs.YtjhpkkhcgpilfaaDoorK
open Go Go.RowKit
set_option linter.unusedVariables false
set_option linter.unusedSimpArgs false
structure Kd (α : Type) where
  sz : Nat
  rep : Hp → List Value → α → Prop
  len : ∀ {H cs a}, rep H cs a → cs.length = sz
  mono : ∀ {H H' cs a}, H.le H' → rep H cs a → rep H' cs a
  one : ∀ {H cs a}, rep H cs a → ∀ c ∈ cs, c.oneCell' = true
/-- A kind of one cell, the value told by the datum. -/
def Kd.cell {α : Type} (enc : α → Value) (h : ∀ a, (enc a).oneCell' = true) : Kd α where
  sz := 1
  rep _ cs a := cs = [enc a]
  len h := by subst h; rfl
  mono _ h := h
  one h' := by subst h'; intro c hc; rcases List.mem_singleton.1 hc with rfl; exact h _
def Kd.int (K : IntKind) : Kd Int := .cell (.int K) fun _ => rfl
def Kd.bool : Kd Bool := .cell .bool fun _ => rfl
def errV (T : TypeId) : Option Int → Value
  | none => .nilIface
  | some n => .iface T (.int .i64 n)
def Kd.pair {α β : Type} (a : Kd α) (b : Kd β) : Kd (α × β) where
  sz := a.sz + b.sz
  rep H cs p := ∃ c d, cs = c ++ d ∧ a.rep H c p.1 ∧ b.rep H d p.2
  len := by rintro H _ p ⟨c, d, rfl, h1, h2⟩; simp [a.len h1, b.len h2]
  mono := by rintro H H' _ p hle ⟨c, d, rfl, h1, h2⟩; exact ⟨c, d, rfl, a.mono hle h1, b.mono hle h2⟩
  one := by
    rintro H _ p ⟨c, d, rfl, h1, h2⟩ x hx
    rcases List.mem_append.1 hx with h | h
    · exact a.one h1 x h
    · exact b.one h2 x h
def Kd.map {α β : Type} (g : β → α) (k : Kd α) : Kd β where
  sz := k.sz
  rep H cs b := k.rep H cs (g b)
  len h := k.len h
  mono hle h := k.mono hle h
  one h := k.one h
def Reps {α : Type} (k : Kd α) (H : Hp) : List Value → List α → Prop
  | inner, [] => inner = []
  | inner, x :: xs => ∃ c r, inner = c ++ r ∧ k.rep H c x ∧ Reps k H r xs
section
variable {α : Type} {k : Kd α} {H H' : Hp}
theorem Reps.mono (hle : H.le H') : ∀ {inner : List Value} {xs : List α}, Reps k H inner xs → Reps k H' inner xs
  | _, [], h => h
  | _, x :: xs, ⟨c, r, e, h1, h2⟩ => ⟨c, r, e, k.mono hle h1, Reps.mono hle h2⟩
theorem Reps.len : ∀ {inner : List Value} {xs : List α}, Reps k H inner xs → inner.length = xs.length * k.sz
  | _, [], h => by rw [show _ = [] from h]; simp
  | _, x :: xs, ⟨c, r, e, h1, h2⟩ => by rw [e, List.length_append, k.len h1, Reps.len h2, List.length_cons, Nat.succ_mul]; omega
theorem Reps.one : ∀ {inner : List Value} {xs : List α}, Reps k H inner xs → ∀ c ∈ inner, c.oneCell' = true
  | _, [], h, c, hc => by rw [show _ = [] from h] at hc; cases hc
  | _, x :: xs, ⟨c, r, e, h1, h2⟩, y, hy => by
    rw [e] at hy
    rcases List.mem_append.1 hy with h | h
    · exact k.one h1 y h
    · exact Reps.one h2 y h
theorem Reps.append : ∀ {i1 i2 : List Value} {xs ys : List α}, Reps k H i1 xs → Reps k H i2 ys → Reps k H (i1 ++ i2) (xs ++ ys)
  | _, i2, [], ys, h, h' => by rw [show _ = [] from h]; exact h'
  | _, i2, x :: xs, ys, ⟨c, r, e, h1, h2⟩, h' => ⟨c, r ++ i2, by rw [e, List.append_assoc], h1, Reps.append h2 h'⟩
theorem Reps.cons {c r : List Value} {x : α} {xs : List α} (h : k.rep H c x) (h' : Reps k H r xs) : Reps k H (c ++ r) (x :: xs) := ⟨c, r, rfl, h, h'⟩
theorem Reps.get : ∀ {inner : List Value} {xs : List α}, Reps k H inner xs → ∀ i (hi : i < xs.length), k.rep H ((inner.drop (i * k.sz)).take k.sz) xs[i]
  | _, x :: xs, ⟨c, r, e, h1, h2⟩, 0, _ => by
    have := k.len h1
    rw [e, Nat.zero_mul, List.drop_zero, ← this, List.take_left]; exact h1
  | _, x :: xs, ⟨c, r, e, h1, h2⟩, i + 1, hi => by
    have := Reps.get h2 i (by simpa using hi)
    have hl := k.len h1
    rw [e, Nat.succ_mul, Nat.add_comm, ← List.drop_drop]
    simp only [List.getElem_cons_succ]
    rw [show (c ++ r).drop k.sz = r from by rw [← hl, List.drop_left]]
    exact this
theorem Reps.take : ∀ {inner : List Value} {xs : List α}, Reps k H inner xs → ∀ n, Reps k H (inner.take (n * k.sz)) (xs.take n)
  | _, [], h, n => by rw [show _ = [] from h]; simp [Reps]
  | _, x :: xs, _, 0 => by simp [Reps]
  | _, x :: xs, ⟨c, r, e, h1, h2⟩, n + 1 => by
    refine ⟨c, r.take (n * k.sz), ?_, h1, Reps.take h2 n⟩
    have hl := k.len h1
    rw [e, List.take_append, hl, List.take_of_length_le (by rw [hl, Nat.succ_mul]; omega)]
    congr 2; rw [Nat.succ_mul]; omega
theorem Reps.drop : ∀ {inner : List Value} {xs : List α}, Reps k H inner xs → ∀ n, Reps k H (inner.drop (n * k.sz)) (xs.drop n)
  | _, [], h, n => by rw [show _ = [] from h]; simp [Reps]
  | _, x :: xs, h, 0 => by simpa using h
  | _, x :: xs, ⟨c, r, e, h1, h2⟩, n + 1 => by
    have hl := k.len h1
    have := Reps.drop h2 n
    rw [e, Nat.succ_mul, Nat.add_comm, ← List.drop_drop, show (c ++ r).drop k.sz = r from by rw [← hl, List.drop_left]]
    exact this
theorem Reps.set : ∀ {inner : List Value} {xs : List α}, Reps k H inner xs → ∀ i c y, i < xs.length → k.rep H c y → Reps k H (inner.take (i * k.sz) ++ c ++ inner.drop (i * k.sz + k.sz)) (xs.set i y)
  | _, x :: xs, ⟨c, r, e, h1, h2⟩, 0, c', y, _, hy => by
    have hl := k.len h1
    refine ⟨c', r, ?_, hy, h2⟩
    rw [e, Nat.zero_mul, List.take_zero, List.nil_append, Nat.zero_add, show (c ++ r).drop k.sz = r from by rw [← hl, List.drop_left]]
  | _, x :: xs, ⟨c, r, e, h1, h2⟩, i + 1, c', y, hi, hy => by
    have hl := k.len h1
    have := Reps.set h2 i c' y (by simpa using hi) hy
    refine ⟨c, r.take (i * k.sz) ++ c' ++ r.drop (i * k.sz + k.sz), ?_, h1, this⟩
    rw [e, Nat.succ_mul, List.take_append, hl, List.take_of_length_le (by omega), List.append_assoc, List.append_assoc, List.append_assoc]
    congr 1
    rw [show i * k.sz + k.sz - k.sz = i * k.sz by omega, show i * k.sz + k.sz + k.sz = k.sz + (i * k.sz + k.sz) by omega, ← List.drop_drop, show (c ++ r).drop k.sz = r from by rw [← hl, List.drop_left]]
theorem Reps.replicate {c : List Value} {x : α} (h : k.rep H c x) : ∀ n, Reps k H ((List.replicate n c).flatten) (List.replicate n x)
  | 0 => rfl
  | n + 1 => ⟨c, (List.replicate n c).flatten, by simp [List.replicate_succ], h, Reps.replicate h n⟩
end
/-! ### cells that lie somewhere -/
/-- Known for good. -/
def Cells (H : Hp) (a : Addr) (cs : List Value) : Prop := a.spot = none ∧ ∃ arr T fz, H.at_ a.block = some (.cells arr T fz) ∧ ∀ j c, cs[j]? = some c → arr[a.off + j]? = some c
/-- At this moment. -/
def Lies (H : Hp) (L : Items) (a : Addr) (cs : List Value) : Prop := ∀ w, Own H w L → ∀ j c, cs[j]? = some c → w.cell? (a.add j) = some c
theorem Cells.mono {H H' a cs} (hle : Hp.le H H') (h : Cells H a cs) : Cells H' a cs := let ⟨e, arr, T, fz, h1, h2⟩ := h; ⟨e, arr, T, fz, hle.at_ _ _ h1, h2⟩
theorem addr_add {a : Addr} (h : a.spot = none) (j : Nat) : a.add j = ⟨a.block, a.off + j, none⟩ := by
  cases a; simp only at h; subst h; unfold Addr.add; split <;> simp_all
theorem Cells.lies {H L a cs} (h : Cells H a cs) : Lies H L a cs := fun w hw j c hj => by
  obtain ⟨e, arr, T, fz, h1, h2⟩ := h
  rw [addr_add e]
  simp only [World.cell?, hw.good _ _ h1]
  simpa using h2 j c hj
theorem Cells.sub {H a cs} (h : Cells H a cs) (n m : Nat) : Cells H (a.add n) ((cs.drop n).take m) := by
  obtain ⟨e, arr, T, fz, h1, h2⟩ := h
  rw [addr_add e]
  refine ⟨rfl, arr, T, fz, h1, fun j c hj => ?_⟩
  have hj' : cs[n + j]? = some c := by
    rw [List.getElem?_take] at hj
    split at hj
    · rwa [List.getElem?_drop] at hj
    · cases hj
  have := h2 _ c hj'
  simpa [Nat.add_assoc] using this
theorem lies_box {H L b arr T fz} (hm : Has L (some (b, .cells arr T fz))) (off m : Nat) : Lies H L ⟨b, off, none⟩ ((arr.toList.drop off).take m) := fun w hw j c hj => by
  have h := (hw.has hm).2
  rw [addr_add rfl]
  simp only [World.cell?, h]
  rw [List.getElem?_take] at hj
  split at hj
  · rw [List.getElem?_drop] at hj; simpa using hj
  · cases hj
theorem Lies.sub {H L a cs} (h : Lies H L a cs) (ha : a.spot = none) (n m : Nat) : Lies H L (a.add n) ((cs.drop n).take m) := fun w hw j c hj => by
  rw [List.getElem?_take] at hj
  split at hj
  · rw [List.getElem?_drop] at hj
    have := h w hw (n + j) c hj
    rw [addr_add ha] at this
    rw [addr_add ha, addr_add rfl]; simpa [Nat.add_assoc] using this
  · cases hj
theorem add_add (a : Addr) (n j : Nat) : (a.add n).add j = a.add (n + j) := by
  unfold Addr.add
  by_cases h : n = 0
  · subst h; simp
  · by_cases h2 : j = 0
    · subst h2; simp
    · simp [h, h2, Nat.add_assoc]
theorem Lies.part {H L a cs} (h : Lies H L a cs) (n m : Nat) : Lies H L (a.add n) ((cs.drop n).take m) := fun w hw j c hj => by
  rw [List.getElem?_take] at hj
  split at hj
  · rw [List.getElem?_drop] at hj
    rw [add_add]; exact h w hw (n + j) c hj
  · cases hj
/-- A type's shape, as memory has it. -/
def aggD : TypeDesc → Bool
  | .struct _ | .array _ _ => true
  | _ => false
structure TyA (P : Program) (t : TypeId) (agg : Bool) (sz : Nat) : Prop where
  und : ∃ d, P.underlying t = some d ∧ aggD d = agg
  size : (P.info? t).map (·.size) = some sz
def vof (agg : Bool) (cs : List Value) : Value := cond agg (.agg ⟨cs⟩) (cs.headD undef)
section
variable {P : Program} {w : World}
theorem run_sizeOf' {t : TypeId} {sz : Nat} (h : (P.info? t).map (·.size) = some sz) (w : World) : (sizeOf t).run P w = .ok sz w := by
  cases hi : P.info? t with
  | none => rw [hi] at h; cases h
  | some i => rw [hi] at h; simp at h; simp [sizeOf, typeInfo, hi, h]
theorem run_isAgg {t : TypeId} {agg : Bool} {sz : Nat} (h : TyA P t agg sz) (w : World) : (isAgg t).run P w = .ok agg w := by
  obtain ⟨d, h1, h2⟩ := h.und
  unfold isAgg
  rw [Sem.run_bind, run_underlying h1 w]
  cases d <;> simp_all [aggD]
theorem run_loadVar {t : TypeId} {agg : Bool} {sz : Nat} {a : Addr} {cs : List Value} (ht : TyA P t agg sz) (hl : cs.length = sz) (h1 : agg = false → sz = 1) (hc : ∀ j c, cs[j]? = some c → w.cell? (a.add j) = some c) :
    (loadVar t a).run P w = .ok (vof agg cs) w := by
  unfold loadVar
  rw [Sem.run_bind, run_isAgg ht]
  cases agg with
  | true =>
    have := run_loadCells_list (P := P) w a cs hc
    simp [run_sizeOf' ht.size, ← hl, this, vof]
  | false =>
    have hl1 : cs.length = 1 := hl.trans (h1 rfl)
    match cs, hl1 with
    | [c], _ =>
      have := hc 0 c rfl
      rw [show a.add 0 = a from rfl] at this
      simp [this, vof]
end
section
variable {P : Program} {f : FB} {n : Nat} {k : List Item} {σ : Nat → Value} {H : Hp} {L : Items} {R : Value → Hp → Items → Prop}
theorem d_load {t : TypeId} {x : Operand} {agg : Bool} {sz : Nat} {a : Addr} {cs : List Value} {v : Value} (ht : TyA P t agg sz) (hx : ev n σ x = .pointer (some a)) (hl : cs.length = sz) (h1 : agg = false → sz = 1) (hc : Lies H L a cs) (hv : vof agg cs = v) : OpA P n σ H L (.load t x) (Is v H L) :=
  opA_det fun o ho w hw => by
    unfold execOp; rw [ho]; subst hv
    simp [hx, Instr.loadAt, Instr.sureAddr, run_loadVar ht hl h1 (hc w hw)]
/-- An own block's cells, as they stand. -/
theorem d_loado {t : TypeId} {x : Operand} {agg : Bool} {sz b off : Nat} {cs cs' : List Value} {T : TypeId} {fz} {v : Value} (ht : TyA P t agg sz) (hx : ev n σ x = .pointer (some ⟨b, off, none⟩)) (hm : Has L (some (b, .cells ⟨cs⟩ T fz))) (hcs : (cs.drop off).take sz = cs') (hl : Nat.beq cs'.length sz = true) (h1 : (agg || Nat.beq sz 1) = true) (hv : vof agg cs' = v) :
    OpA P n σ H L (.load t x) (Is v H L) :=
  d_load ht hx (Nat.eq_of_beq_eq_true hl) (fun e => by rw [e] at h1; exact Nat.eq_of_beq_eq_true h1) (by subst hcs; exact lies_box hm off sz) hv
/-- A field of what a pointer points to. -/
theorem d_fieldAddr {s : TypeId} {x : Operand} {i sz : Nat} {fs : Array Field} {fd : Field} {a : Addr} (hs : P.underlying s = some (.struct fs)) (hf : fs[i]? = some fd) (hsz : (P.info? fd.type).map (·.size) = some sz) (h0 : Nat.beq sz 0 = false) (hx : ev n σ x = .pointer (some a)) : OpA P n σ H L (.fieldAddr s x i) (Is (.pointer (some (a.add fd.offset))) H L) := opA_any fun o ho w => by
  unfold execOp; rw [ho]
  have : ¬ sz = 0 := fun e => by rw [e] at h0; cases h0
  simp [hx, Instr.fieldAt, run_underlying hs, hf, Instr.sureAddr, fieldPlace, run_sizeOf' hsz, this]
/-! ### stores -/
/-- l' is l with vs from place i on. -/
inductive SetL : List Value → Nat → List Value → List Value → Prop
  | done {l} : SetL l 0 [] l
  | here {c l v vs l'} : SetL l 0 vs l' → SetL (c :: l) 0 (v :: vs) (v :: l')
  | there {c l i vs l'} : SetL l i vs l' → SetL (c :: l) (i + 1) vs (c :: l')
theorem SetL.eq {l i vs l'} (h : SetL l i vs l') : l' = l.take i ++ vs ++ l.drop (i + vs.length) ∧ i + vs.length ≤ l.length := by
  induction h with
  | done => simp
  | @here c l v vs l' h ih => obtain ⟨h1, h2⟩ := ih; simp at h1 h2 ⊢; exact ⟨h1, by omega⟩
  | @there c l i vs l' h ih =>
    obtain ⟨h1, h2⟩ := ih
    refine ⟨?_, by simp; omega⟩
    rw [show i + 1 + vs.length = (i + vs.length) + 1 by omega]
    simp only [List.take_succ_cons, List.drop_succ_cons, List.cons_append]
    rw [← h1]
theorem run_storeCells {b : Nat} {T : TypeId} {off : Nat} : ∀ (vs : List Value) (i : Nat) (arr : Array Value) (w : World), w.heap[b]? = some (.cells arr T (0, 0)) → off + i + vs.length ≤ arr.size → (∀ v ∈ vs, v.oneCell' = true) →
    ∃ w', (storeCells ⟨b, off, none⟩ vs i).run P w = .ok () w' ∧ w'.os = w.os ∧ w'.tape = w.tape ∧ w'.output = w.output ∧ w'.heap[b]? = some (.cells ⟨arr.toList.take (off + i) ++ vs ++ arr.toList.drop (off + i + vs.length)⟩ T (0, 0)) ∧ (∀ c, c ≠ b → w'.heap[c]? = w.heap[c]?)
  | [], i, arr, w, hb, hl, _ => ⟨w, by simp [storeCells], rfl, rfl, rfl, by simpa using hb, fun _ _ => rfl⟩
  | v :: vs, i, arr, w, hb, hl, h1 => by
    have hlt : off + i < arr.size := by simp at hl; omega
    have hcell : w.cell? ⟨b, off + i, none⟩ = some arr[off + i] := by simp [World.cell?, hb, hlt]
    have hfz : w.frozen? ⟨b, off + i, none⟩ = false := by simp [World.frozen?, hb]
    have hset : (w.setCell ⟨b, off + i, none⟩ v).heap[b]? = some (.cells (arr.setIfInBounds (off + i) v) T (0, 0)) := by
      simp only [World.setCell, Array.getElem?_modify, if_true, hb]; rfl
    obtain ⟨w', h2, h3, h4, h5, h6, h7⟩ := run_storeCells (b := b) (T := T) (off := off) vs (i + 1) (arr.setIfInBounds (off + i) v) _ hset (by simp at hl ⊢; omega) (fun v hv => h1 v (List.mem_cons_of_mem _ hv))
    refine ⟨w', ?_, h3, h4, h5, ?_, fun c hc => (h7 c hc).trans ?_⟩
    · simp only [storeCells, Sem.run_bind, addr_add (a := ⟨b, off, none⟩) rfl i, run_store P w _ v .plain (h1 v (List.mem_cons_self ..)), hcell, hfz, Bool.false_eq_true, if_false, Result.andThen_ok]
      exact h2
    · rw [h6]
      congr 2
      apply congrArg
      simp only [Array.toList_setIfInBounds]
      have e1 : (arr.toList.set (off + i) v).take (off + (i + 1)) = arr.toList.take (off + i) ++ [v] := by
        rw [show off + (i + 1) = off + i + 1 by omega, List.take_add_one, List.take_set_of_le (by omega)]
        simp [hlt]
      have e2 : (arr.toList.set (off + i) v).drop (off + (i + 1) + vs.length) = arr.toList.drop (off + i + (v :: vs).length) := by
        rw [List.drop_set_of_lt (by omega)]; congr 1; simp; omega
      rw [e1, e2]; simp
    · simp only [World.setCell, Array.getElem?_modify]; rw [if_neg (fun e => hc e.symm)]
theorem o_store {t : TypeId} {x y : Operand} {b off sz : Nat} {cs cs' vs : List Value} {T : TypeId} {v : Value} {L' : Items} (hsz : (P.info? t).map (·.size) = some sz) (hx : ev n σ x = .pointer (some ⟨b, off, none⟩)) (hy : ev n σ y = v) (hv : v.cells = ⟨vs⟩) (hl : Nat.beq vs.length sz = true) (h1 : vs.all (·.oneCell') = true)
    (hu : Upd L (some (b, .cells ⟨cs⟩ T (0, 0))) (some (b, .cells ⟨cs'⟩ T (0, 0))) L') (hs : SetL cs off vs cs') : OpA P n σ H L (.store t x y) (fun v' H' L'' => v' = undef ∧ H = H' ∧ L'' = L') :=
  fun o ho => opr_run fun w hw => by
    have hl := Nat.eq_of_beq_eq_true hl
    obtain ⟨e1, e2⟩ := hs.eq
    obtain ⟨w', h2, h3, h4, h5, h6, h7⟩ := run_storeCells (P := P) (off := off) vs 0 ⟨cs⟩ w (hw.has hu.has).2 (by simpa using e2) (fun v hv => List.all_eq_true.1 h1 v hv)
    refine ⟨undef, w', H, L', .inr ⟨?_, rfl⟩, hw.put hu h3 h4 h5 ?_ fun c _ hc => h7 c hc, rfl, rfl, rfl⟩
    · unfold execOp; rw [ho]
      simp [hx, hy, Instr.storeAt, Instr.sureAddr, storeVar, hv, hl, run_sizeOf' hsz, h2]
    · rw [h6]; simp only [Nat.add_zero]; rw [e1]
/-! ### new blocks -/
theorem o_box {t : TypeId} {x : Operand} {v : Value} {cs : List Value} (hx : ev n σ x = v) (hv : v.cells = ⟨cs⟩) : OpA P n σ H L (.box t x) (fun v' H' L' => ∃ b, v' = .pointer (some ⟨b, 0, none⟩) ∧ H = H' ∧ L' = some (b, .cells ⟨cs⟩ t (0, 0)) :: L) :=
  fun o ho => opr_run fun w hw => ⟨_, _, H, _, .inl (by unfold execOp; rw [ho]; simp [hx, Instr.box, newVar, newRow, hv]), hw.alloc _, _, rfl, rfl, rfl⟩
theorem run_zeroValue {t : TypeId} {z : Value} (h : (P.info? t).bind (·.zero) = some z) (w : World) : (zeroValue t).run P w = .ok z w := by
  cases hi : P.info? t with
  | none => rw [hi] at h; cases h
  | some i => rw [hi] at h; simp at h; simp [zeroValue, typeInfo, hi, h]
theorem o_alloc {t : TypeId} {z : Value} {cs : List Value} (hz : (P.info? t).bind (·.zero) = some z) (hv : z.cells = ⟨cs⟩) : OpA P n σ H L (.alloc t) (fun v' H' L' => ∃ b, v' = .pointer (some ⟨b, 0, none⟩) ∧ H = H' ∧ L' = some (b, .cells ⟨cs⟩ t (0, 0)) :: L) :=
  fun o ho => opr_run fun w hw => ⟨_, _, H, _, .inl (by unfold execOp; rw [ho]; simp [Instr.alloc, run_zeroValue hz, newVar, newRow, hv]), hw.alloc _, _, rfl, rfl, rfl⟩
/-- A struct's or an array's value, out of parts. -/
inductive Fill (place : Nat → Option (Nat × Nat)) : List Value → List (Nat × Value) → List Value → Prop
  | nil {cs} : Fill place cs [] cs
  | cons {cs i v vs rest off sz cs1 cs2} : place i = some (off, sz) → v.cells = ⟨vs⟩ → Nat.beq vs.length sz = true → SetL cs off vs cs1 → Fill place cs1 rest cs2 → Fill place cs ((i, v) :: rest) cs2
theorem foldl_set : ∀ (vs : List Value) (off j : Nat) (cs : Array Value), off + j + vs.length ≤ cs.size → (vs.zipIdx j).foldl (fun cs (c, j) => cs.setIfInBounds (off + j) c) cs = ⟨cs.toList.take (off + j) ++ vs ++ cs.toList.drop (off + j + vs.length)⟩
  | [], off, j, cs, _ => by simp
  | v :: vs, off, j, cs, h => by
    simp only [List.zipIdx_cons, List.foldl_cons]
    rw [foldl_set vs off (j + 1) _ (by simp at h ⊢; omega)]
    apply congrArg
    simp only [Array.toList_setIfInBounds]
    have hlt : off + j < cs.size := by simp at h; omega
    have e1 : (cs.toList.set (off + j) v).take (off + (j + 1)) = cs.toList.take (off + j) ++ [v] := by
      rw [show off + (j + 1) = off + j + 1 by omega, List.take_add_one, List.take_set_of_le (by omega)]
      simp [hlt]
    have e2 : (cs.toList.set (off + j) v).drop (off + (j + 1) + vs.length) = cs.toList.drop (off + j + (v :: vs).length) := by
      rw [List.drop_set_of_lt (by omega)]; congr 1; simp; omega
    rw [e1, e2]; simp
theorem fill_of {place : Nat → Option (Nat × Nat)} : ∀ {cs : List Value} {parts : List (Nat × Value)} {cs' : List Value}, Fill place cs parts cs' → Instr.fill place ⟨cs⟩ parts = some ⟨cs'⟩ := by
  intro cs parts cs' h
  induction h with
  | nil => rfl
  | @cons cs i v vs rest off sz cs1 cs2 h1 h2 h3 h4 h5 ih =>
    obtain ⟨e1, e2⟩ := h4.eq
    have hl := Nat.eq_of_beq_eq_true h3
    have hcond : ¬ (v.cells.size ≠ sz ∨ cs.length < off + v.cells.size) := by rw [h2]; simp only [List.size_toArray, ne_eq]; omega
    simp only [Instr.fill, h1]
    rw [if_neg (by rw [h2]; simp; omega), h2]
    have : (List.toArray vs).zipIdx.foldl (fun cs (x : Value × Nat) => cs.setIfInBounds (off + x.2) x.1) (List.toArray cs) = ⟨cs1⟩ := by
      rw [← Array.foldl_toList]
      have := foldl_set vs off 0 ⟨cs⟩ (by simpa using e2)
      simp only [Nat.add_zero] at this
      rw [e1, ← this]
      congr 1
      simp [Array.toList_zipIdx]
    rw [show (List.toArray vs).zipIdx.foldl (fun cs (x : Value × Nat) => match x with | (c, j) => cs.setIfInBounds (off + j) c) (List.toArray cs) = ⟨cs1⟩ from this]
    exact ih
def placesOf (P : Program) (fs : Array Field) (i : Nat) : Option (Nat × Nat) := (fs[i]?).bind fun fd => (P.info? fd.type).map fun x => (fd.offset, x.size)
theorem run_places (w : World) : ∀ (fs : List Field), (∀ fd ∈ fs, (P.info? fd.type).isSome = true) → (fs.mapM fun fd => (do pure (fd.offset, ← sizeOf fd.type) : Sem (Nat × Nat))).run P w = .ok (fs.map fun fd => (fd.offset, ((P.info? fd.type).map (·.size)).getD 0)) w
  | [], _ => by simp
  | fd :: fs, h => by
    obtain ⟨i, hi⟩ := Option.isSome_iff_exists.1 (h fd (List.mem_cons_self ..))
    have := run_places w fs fun fd hfd => h fd (List.mem_cons_of_mem _ hfd)
    simp only [List.mapM_cons, Sem.run_bind, sizeOf, typeInfo, run_program, Result.andThen_ok, hi, Sem.run_pure, List.map_cons, Option.map_some, Option.getD_some]
    simp only [sizeOf, typeInfo] at this
    rw [this]; rfl
theorem d_build {t : TypeId} {ps : Array (Nat × Operand)} {fs : Array Field} {z : Value} {cs cs' : List Value} (hs : P.underlying t = some (.struct fs)) (hz : (P.info? t).bind (·.zero) = some z) (hzc : z.cells = ⟨cs⟩) (hfs : fs.toList.all (fun fd => (P.info? fd.type).isSome) = true) {parts : List (Nat × Value)} (hp : ps.toList.map (fun p => (p.1, ev n σ p.2)) = parts) (hf : Fill (placesOf P fs) cs parts cs') : OpA P n σ H L (.build t ps) (Is (.agg ⟨cs'⟩) H L) := opA_any fun o ho w => by
  unfold execOp; rw [ho]
  have hpl := run_places (P := P) w fs.toList (fun fd hfd => List.all_eq_true.1 hfs fd hfd)
  have hpl' : (fs.mapM fun fd => (do pure (fd.offset, ← sizeOf fd.type) : Sem (Nat × Nat))).run P w = .ok (fs.map fun fd => (fd.offset, ((P.info? fd.type).map (·.size)).getD 0)) w := by
    rw [Array.mapM_eq_mapM_toList]
    simp only [Sem.run_map, hpl, Result.andThen_ok]
    congr 1
    apply Array.ext'
    simp
  have hplace : (fun i => (fs.map fun fd => (fd.offset, ((P.info? fd.type).map (·.size)).getD 0))[i]?) = placesOf P fs := by
    funext i
    simp only [placesOf, Array.getElem?_map]
    cases hi : fs[i]? with
    | none => rfl
    | some fd =>
      have hmem : fd ∈ fs.toList := by
        have := Array.getElem?_toList (xs := fs) (i := i); rw [hi] at this; exact List.mem_of_getElem? this
      obtain ⟨x, hx⟩ := Option.isSome_iff_exists.1 (List.all_eq_true.1 hfs fd hmem)
      simp [hx]
  have hfill := fill_of hf
  simp only [Instr.build, Sem.run_bind, run_zeroValue hz, Result.andThen_ok, run_underlying hs, hpl']
  rw [hplace]
  have hparts : (ps.map fun x => (x.1, ev n σ x.2)).toList = parts := by rw [← hp]; simp
  have hparts' : (ps.map fun x => match x with | (i, x) => (i, ev n σ x)).toList = parts := hparts
  rw [hparts', hzc, hfill]
  rfl
end
end Go.Proofs.YtjhpkkhcgpilfaaDoorK

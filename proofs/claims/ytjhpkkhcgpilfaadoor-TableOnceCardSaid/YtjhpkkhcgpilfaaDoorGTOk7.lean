/- Small laws that the printed walks use: rounds that grow, conditions, the facts of drawn regions, ends of calls. -/
import Derived.Test.YtjhpkkhcgpilfaaDoorGTOk6
import Derived.Laws.IdiomStrings
namespace Go.Proofs.YtjhpkkhcgpilfaaDoorK
open Go Go.RowKit
set_option linter.unusedVariables false
set_option linter.unusedSimpArgs false
/-! ### more rounds -/
def LeO {α : Type} (a b : Option α) : Prop := ∀ r, a = some r → b = some r
theorem LeO.refl {α : Type} (a : Option α) : LeO a a := fun _ h => h
theorem LeO.none {α : Type} (a : Option α) : LeO none a := fun _ h => nomatch h
theorem LeO.ite {α : Type} {c : Prop} [Decidable c] {a b a' b' : Option α} (h1 : LeO a a') (h2 : LeO b b') : LeO (if c then a else b) (if c then a' else b') := by
  split
  · exact h1
  · exact h2
theorem LeO.bind {α β : Type} {a a' : Option α} {f f' : α → Option β} (h1 : LeO a a') (h2 : ∀ x, LeO (f x) (f' x)) : LeO (a.bind f) (a'.bind f') := fun r h => by
  obtain ⟨x, hx, h⟩ := Option.bind_eq_some_iff.1 h
  exact Option.bind_eq_some_iff.2 ⟨x, h1 x hx, h2 x r h⟩
/-- A call under a guard. -/
def gd {α : Type} (g : Bool) (x : Option α) (d : α) : Option α := if g = true then x else some d
theorem LeO.gd {α : Type} {g : Bool} {a a' : Option α} {d : α} (h : LeO a a') : LeO (gd g a d) (gd g a' d) := LeO.ite h (LeO.refl _)
theorem gd_t {α : Type} {g : Bool} {x : Option α} {d y : α} (hg : g = true) (h : gd g x d = some y) : x = some y := by unfold gd at h; rwa [if_pos hg] at h
theorem rq {α : Type} {c : Prop} [Decidable c] {x : Option α} {r : α} (h : (if c then x else none) = some r) : c ∧ x = some r := by
  by_cases hc : c
  · exact ⟨hc, by rwa [if_pos hc] at h⟩
  · rw [if_neg hc] at h; cases h
theorem its {α : Type} {c : Prop} [Decidable c] {x y : Option α} {r : α} (h : (if c then x else y) = some r) : (c ∧ x = some r) ∨ (¬ c ∧ y = some r) := by
  by_cases hc : c
  · exact .inl ⟨hc, by rwa [if_pos hc] at h⟩
  · exact .inr ⟨hc, by rwa [if_neg hc] at h⟩
theorem nd_t {p : Prop} [Decidable p] (h : p) : (!decide p) = false := by simp [h]
theorem nd_f {p : Prop} [Decidable p] (h : ¬ p) : (!decide p) = true := by simp [h]
/-! ### code's parts -/
def seqL : Code → Code | .seq a _ => a | c => c
def seqR : Code → Code | .seq _ b => b | c => c
def blkB : Code → Code | .block _ b => b | c => c
def lopB : Code → Code | .loop b => b | c => c
/-! ### cells -/
theorem Ro.cells {α : Type} {k : Kd α} {H v xs} (h : Ro k H v xs) : v.cells = ⟨[v]⟩ := by obtain ⟨A, c, rfl, _⟩ := h; rfl
theorem Ro.one {α : Type} {k : Kd α} {H v xs} (h : Ro k H v xs) : v.oneCell' = true := by obtain ⟨A, c, rfl, _⟩ := h; rfl
theorem Sl.cells {α : Type} {k : Kd α} {H T it v xs} (h : Sl k H T it v xs) : v.cells = ⟨[v]⟩ := by rcases h with ⟨_, rfl, _⟩ | ⟨b, o, arr, c, _, rfl, _⟩ <;> rfl
theorem Sl.one {α : Type} {k : Kd α} {H T it v xs} (h : Sl k H T it v xs) : v.oneCell' = true := by rcases h with ⟨_, rfl, _⟩ | ⟨b, o, arr, c, _, rfl, _⟩ <;> rfl
theorem one_nil : ([] : List Value).all (·.oneCell') = true := rfl
theorem one_cons {c : Value} {cs : List Value} (h : c.oneCell' = true) (t : cs.all (·.oneCell') = true) : (c :: cs).all (·.oneCell') = true := by simp [h, t]
/-- An item struck out. -/
inductive Del : Items → Items → Prop
  | here {a l} : Del (a :: l) l
  | there {a l l'} : Del l l' → Del (a :: l) (a :: l')
theorem keys_del {L L'} (d : Del L L') : ∀ c ∈ keys L', c ∈ keys L := by
  induction d with
  | @here a l => intro c hc; cases a with
    | none => exact hc
    | some p => exact List.mem_cons_of_mem _ hc
  | @there a l l' d ih => intro c hc; cases a with
    | none => exact ih c hc
    | some p => rcases List.mem_cons.1 hc with rfl | hc
                · exact List.mem_cons_self ..
                · exact List.mem_cons_of_mem _ (ih c hc)
theorem held_del {H w L L'} (d : Del L L') (h : Held H w L) : Held H w L' := by
  induction d with
  | @here a l => cases a with
    | none => exact h
    | some p => exact h.2
  | @there a l l' d ih => cases a with
    | none => exact ih h
    | some p => exact ⟨⟨h.1.1, h.1.2.1, fun hm => h.1.2.2 (keys_del d _ hm)⟩, ih h.2⟩
theorem Own.del {H w L L'} (h : Own H w L) (d : Del L L') : Own H w L' := ⟨h.os, h.tape, h.out, h.good, held_del d h.held⟩
/-- The head's item, put where nothing stood. -/
theorem held_put {H w it} {L L'} (u : Upd L none it L') (h : Held H w (it :: L)) : Held H w L' := by
  cases it with
  | none =>
    have key : ∀ {L L' : Items} {a b : Item'}, Upd L a b L' → a = b → L' = L := by
      intro L L' a b u; intro e
      induction u with
      | here => rw [e]
      | there _ ih => rw [ih e]
    rw [key u rfl]; exact h
  | some p => exact held_new u h.2 h.1.2.2 h.1.1 h.1.2.1 fun _ _ => rfl
theorem Own.put' {H w it L L'} (h : Own H w (it :: L)) (u : Upd L none it L') : Own H w L' := ⟨h.os, h.tape, h.out, h.good, held_put u h.held⟩
theorem Own.lower {H H' w L} (h : Own H' w L) (hle : H.le H') : Own H w L :=
  ⟨h.os.trans hle.os, h.tape.trans hle.tape, h.out.trans hle.out, fun b o e => h.good b o (hle.at_ b o e), held_other h.held fun b hb => ⟨rfl, by
    cases e : H.at_ b with
    | none => rfl
    | some o => have := hle.at_ b o e; rw [held_none h.held b hb] at this; cases this⟩⟩
theorem Own.below {H w w' L} (h : Own H w L) (hb : Below w.heap.size w w') : Own H w' L :=
  ⟨hb.os.trans h.os, hb.tape.trans h.tape, hb.output.trans h.out, fun b o e => (hb.block b (good_lt h e)).trans (h.good b o e), held_other h.held fun b hm => ⟨hb.block b (keys_lt h.held b hm), held_none h.held b hm⟩⟩
theorem Own.unapp {H w} : ∀ {p L : Items}, Own H w (p ++ L) → Own H w L
  | [], _, h => h
  | _ :: p, L, h => Own.unapp (p := p) h.tail
/-- What is owned, brought to the head. -/
theorem held_pull {H w} {it b : Item'} {L L'} (u : Upd L it b L') (hb : b = none) (h : Held H w L) : Held H w (it :: L') := by
  induction u with
  | @here l a b =>
    subst hb
    cases a with
    | none => exact h
    | some p => exact h
  | @there l a b l' c u ih =>
    cases c with
    | none => cases a with
      | none => exact ih hb h
      | some p => exact ih hb h
    | some q =>
      have h2 := ih hb h.2
      have sub : ∀ c, c ∈ keys l' → c ∈ keys l := fun c hc => by
        rcases keys_upd u c hc with h | ⟨o, ho⟩
        · exact h
        · rw [hb] at ho; cases ho
      cases a with
      | none => exact ⟨⟨h.1.1, h.1.2.1, fun hm => h.1.2.2 (sub _ hm)⟩, h2⟩
      | some p =>
        refine ⟨⟨h2.1.1, h2.1.2.1, fun hm => ?_⟩, ⟨h.1.1, h.1.2.1, fun hm => h.1.2.2 (sub _ hm)⟩, h2.2⟩
        rcases List.mem_cons.1 hm with e | hm
        · have := keys_has (b := p.1) (o := p.2) u.has
          rw [e] at this; exact h.1.2.2 this
        · exact h2.1.2.2 hm
theorem Own.pull {H w it L L'} (h : Own H w L) (u : Upd L it none L') : Own H w (it :: L') := ⟨h.os, h.tape, h.out, h.good, held_pull u rfl h.held⟩
theorem Src.mono {α : Type} {k : Kd α} {H H' : Hp} {L v xs} (h : Src k H L v xs) (hle : H.le H') : Src (α := α) k H' L v xs := by
  obtain ⟨A, c, h1, h2, h3⟩ := h
  refine ⟨A, c, h1, h2, h3.imp id ?_⟩
  rintro ⟨a, inner, h4, h5, h6, h7⟩
  exact ⟨a, inner, h4, h5, fun w hw => h6 w (hw.lower hle), h7.mono hle⟩
theorem Src.th {α : Type} {k : Kd α} {H : Hp} {it : Item'} {L v xs} (h : Src k H L v xs) : Src (α := α) k H (it :: L) v xs := by
  obtain ⟨A, c, h1, h2, h3⟩ := h
  refine ⟨A, c, h1, h2, h3.imp id ?_⟩
  rintro ⟨a, inner, h4, h5, h6, h7⟩
  exact ⟨a, inner, h4, h5, fun w hw => h6 w hw.tail, h7⟩
/-- A slice's shape alone. -/
def Shp {α : Type} (v : Value) (xs : List α) : Prop := ∃ A c, v = .slice A xs.length c ∧ (xs = [] ∨ ∃ a, A = some a)
theorem Sl.shp {α : Type} {k : Kd α} {H : Hp} {T it v xs} (h : Sl k H T it v xs) : Shp (α := α) v xs := by
  rcases h with ⟨_, rfl, rfl⟩ | ⟨b, o, arr, c, _, rfl, _⟩
  · exact ⟨none, 0, rfl, .inl rfl⟩
  · exact ⟨_, c, rfl, .inr ⟨_, rfl⟩⟩
section
variable {P : Program} {n : Nat} {σ : Nat → Value} {H : Hp} {L : Items}
theorem d_indexS {α : Type} {t : TypeId} {x y : Operand} {v : Value} {e : TypeId} {xs : List α} {i : Int} {K : IntKind} {sz : Nat} (ht : P.underlying t = some (.slice e)) (hsz : (P.info? e).map (·.size) = some sz) (hx : ev n σ x = v) (hs : Shp v xs) (hy : ev n σ y = .int K i) (hi : In xs i) : OpA P n σ H L (.indexAddr t x y) (Is (.pointer (some (pel v i sz))) H L) := opA_any fun o ho w => by
  obtain ⟨A, c, rfl, h3⟩ := hs
  rcases h3 with rfl | ⟨a, rfl⟩
  · exact absurd hi.2 (by simp; omega)
  · unfold execOp; rw [ho]; simp [hx, hy, Instr.indexAt, asIntOf, run_underlying ht, hi.1, hi.2, run_sizeOf' hsz, pel]
theorem d_lenS {α : Type} {t : TypeId} {x : Operand} {v : Value} {e : TypeId} {xs : List α} (ht : P.underlying t = some (.slice e)) (hx : ev n σ x = v) (hs : Shp v xs) : OpA P n σ H L (.call { callee := .builtin .len, args := #[x], argTypes := #[t] }) (Is (.int .i64 xs.length) H L) := opA_any fun o ho w => by
  obtain ⟨A, c, h1, _⟩ := hs
  unfold execOp; rw [ho]; simp [hx, h1, resolve, invoke, builtin, Builtin.len_, run_underlying ht, goInt]
end
/-! ### facts of a drawn region -/
def bof : Item' → Nat
  | some (b, _) => b
  | none => 0
theorem bof_eq {it : Item'} {b : Nat} {o : Obj} (h : it = some (b, o)) : bof it = b := by rw [h]; rfl
/-- What was stored, or what stood there. -/
def pk : Item' → Item' → Item'
  | some x, _ => some x
  | none, y => y
theorem pk_upd {a it : Item'} {l : Items} (h : a = none) : Upd (pk a none :: l) none it (pk a it :: l) := by subst h; exact .here
structure Fct where
  p : Hp → Value → Item' → (Nat → Item') → Prop
  sup : List Nat
  mono : ∀ H H' v it m m', H.le H' → (∀ q ∈ sup, m' q = m q) → p H v it m → p H' v it m'
def Fct.is (v : Value) : Fct := ⟨fun _ v' _ _ => v = v', [], fun _ _ _ _ _ _ _ _ h => h⟩
def Fct.ro {α : Type} (k : Kd α) (xs : List α) : Fct := ⟨fun H v _ _ => Ro k H v xs, [], fun _ _ _ _ _ _ hle _ h => h.mono hle⟩
def Fct.of (P : Hp → Value → Prop) (hm : ∀ {H H' : Hp} {v : Value}, H.le H' → P H v → P H' v) : Fct := ⟨fun H v _ _ => P H v, [], fun _ _ _ _ _ _ hle _ h => hm hle h⟩
def Fct.box (T : TypeId) (cs : List Value) : Fct := ⟨fun _ v it _ => ∃ b, v = .pointer (some ⟨b, 0, none⟩) ∧ it = some (b, .cells ⟨cs⟩ T (0, 0)), [], fun _ _ _ _ _ _ _ _ h => h⟩
/-- A store into a block that was there. -/
def Fct.itm (Q : Hp → Item' → Prop) (hm : ∀ {H H' : Hp} {it : Item'}, H.le H' → Q H it → Q H' it) : Fct := ⟨fun H v it _ => v = undef ∧ Q H it, [], fun _ _ _ _ _ _ hle _ h => ⟨h.1, hm hle h.2⟩⟩
/-- A store into the block that operation j makes. -/
def Fct.st (j : Nat) (Q : Hp → Nat → Item' → Prop) (hm : ∀ {H H' : Hp} {b : Nat} {it : Item'}, H.le H' → Q H b it → Q H' b it) : Fct := ⟨fun H v it m => v = undef ∧ Q H (bof (m j)) it, [j], fun _ _ _ _ m m' hle hs h => ⟨h.1, by rw [hs j (List.mem_singleton.2 rfl)]; exact hm hle h.2⟩⟩
def Fct.sl {α : Type} (k : Kd α) (T : TypeId) (xs : List α) : Fct := ⟨fun H v it _ => Sl k H T it v xs, [], fun _ _ _ _ _ _ hle _ h => h.mono hle⟩
def fctF (l : List Fct) (i : Nat) (H : Hp) (v : Value) (it : Item') (m : Nat → Item') : Prop := match l[i]? with
  | some f => f.p H v it m
  | none => True
def supOk (ops : Array Oper) (l : List Fct) : Bool := l.zipIdx.all fun f => f.1.sup.all fun q => edge ops f.2 q
theorem fct_mono {ops : Array Oper} {l : List Fct} (hs : supOk ops l = true) : ∀ i H H' v m m', Hp.le H H' → m' i = m i → (∀ q, edge ops i q = true → m' q = m q) → fctF l i H v (m i) m → fctF l i H' v (m' i) m' := fun i H H' v m m' hle h1 h2 h => by
  unfold fctF at h ⊢
  cases e : l[i]? with
  | none => trivial
  | some f =>
    rw [e] at h
    rw [h1]
    refine f.mono _ _ _ _ _ _ hle (fun q hq => h2 q ?_) h
    have := List.all_eq_true.1 hs (f, i) (List.mem_iff_getElem?.2 ⟨i, by rw [List.getElem?_zipIdx, e]; simp⟩)
    exact List.all_eq_true.1 this q hq
theorem cnt {g : Bool} {u v : Value} (h : g = false) : cond g v u = u := by rw [h]; rfl
section
variable {P : Program} {f : FB} {n : Nat} {k : List Item} {σ : Nat → Value} {H : Hp} {L : Items} {R : Value → Hp → Items → Prop}
theorem w_del {L'} (d : Del L L') (hk : Wp P f n k σ H L' R) : Wp P f n k σ H L R := fun w hw => hk w (hw.del d)
theorem w_it {L'} (h : L = L') (hk : Wp P f n k σ H L' R) : Wp P f n k σ H L R := h ▸ hk
theorem w_sl (s : Nat) (v : Value) (h : σ s = v) (hk : Wp P f n k (upd σ s v) H L R) : Wp P f n k σ H L R := by rw [upd_self h] at hk; exact hk
theorem ct_out {f : FuncId} {args : Array Value} {O : Hp → Value → Prop} (h : Ct P f args H L (fun v H' L' => (∃ p, L' = p ++ L) ∧ H.le H' ∧ O H' v)) : Ct P f args H L (fun v H' L' => L = L' ∧ H.le H' ∧ O H' v) := by
  intro w hw cs
  obtain ⟨v, w', H', L', fr', a, b, c, d, ⟨p, rfl⟩, e1, e2⟩ := h w hw cs
  exact ⟨v, w', H', L, fr', a, b, c, d.unapp, rfl, e1, e2⟩
theorem ct_outs {f : FuncId} {args : Array Value} {O : Hp → Value → Prop} {v0 : Value} (hO : ∀ H' v, O H' v → v = v0) (h : Ct P f args H L (fun v H' L' => (∃ p, L' = p ++ L) ∧ H.le H' ∧ O H' v)) : Ct P f args H L (fun v H' L' => L = L' ∧ H = H' ∧ v = v0) := by
  intro w hw cs
  obtain ⟨v, w', H', L', fr', a, b, c, d, ⟨p, rfl⟩, e1, e2⟩ := h w hw cs
  exact ⟨v, w', H, L, fr', a, b, c, d.unapp.lower e1, rfl, rfl, hO _ _ e2⟩
theorem call_d {op : Op} {v : Value} (h : OpA P n σ H L op (fun v' H' L' => L = L' ∧ H = H' ∧ v' = v)) : OpA P n σ H L op (Is v H L) := fun o ho => (h o ho).mono fun _ _ _ ⟨a, b, c⟩ => ⟨c, b.symm, a.symm⟩
theorem anil : ([] : List Operand).map (ev n σ) = [] := rfl
theorem acons {x : Operand} {v : Value} {l : List Operand} {vs : List Value} (h : ev n σ x = v) (t : l.map (ev n σ) = vs) : (x :: l).map (ev n σ) = v :: vs := by simp [h, t]
theorem d_pickf {c x y : Operand} {v : Value} (hc : ev n σ c = .bool false) (hx : ev n σ y = v) : OpA P n σ H L (.pick c x y) (Is v H L) := opA_any fun o ho w => by
  unfold execOp; rw [ho]; simp [hc, hx, asBool]
theorem d_ext {x : Operand} {i : Nat} {vs : List Value} {v : Value} (hx : ev n σ x = .tuple ⟨vs⟩) (hv : vs[i]? = some v) : OpA P n σ H L (.extract x i) (Is v H L) := d_extract hx hv
theorem d_fld {s : TypeId} {x : Operand} {i off o' sz b : Nat} {fs : Array Field} {fd : Field} (hs : P.underlying s = some (.struct fs)) (hf : fs[i]? = some fd) (hsz : (P.info? fd.type).map (·.size) = some sz) (h0 : Nat.beq sz 0 = false) (hx : ev n σ x = .pointer (some ⟨b, off, none⟩)) (ho : off + fd.offset = o') : OpA P n σ H L (.fieldAddr s x i) (Is (.pointer (some ⟨b, o', none⟩)) H L) := by
  have := d_fieldAddr (P := P) (n := n) (σ := σ) (H := H) (L := L) hs hf hsz h0 hx
  rwa [addr_add rfl, ho] at this
theorem d_idxArr {t : TypeId} {x y : Operand} {e b off o' len sz : Nat} {i : Int} {K : IntKind} (ht : P.underlying t = some (.array len e)) (hsz : (P.info? e).map (·.size) = some sz) (hx : ev n σ x = .pointer (some ⟨b, off, none⟩)) (hy : ev n σ y = .int K i) (hi : 0 ≤ i ∧ i < (len : Int)) (ho : off + i.toNat * sz = o') : OpA P n σ H L (.indexAddr t x y) (Is (.pointer (some ⟨b, o', none⟩)) H L) := opA_any fun o hop w => by
  unfold execOp; rw [hop, ← ho]; simp [hx, hy, Instr.indexAt, asIntOf, run_underlying ht, Instr.sureAddr, hi.1, hi.2, run_sizeOf' hsz, addr_add (a := ⟨b, off, none⟩) rfl]
theorem place_of {fs : Array Field} {i off sz : Nat} {fd : Field} (hf : fs[i]? = some fd) (hsz : (P.info? fd.type).map (·.size) = some sz) (ho : fd.offset = off) : placesOf P fs i = some (off, sz) := by
  unfold placesOf; rw [hf]; simp only [Option.bind_some]
  cases e : P.info? fd.type with
  | none => rw [e] at hsz; cases hsz
  | some x => rw [e] at hsz; simp at hsz; simp [hsz, ho]
/-! ### a type's numbers -/
structure TI (P : Program) (e : TypeId) (sz bytes : Nat) (z : Value) : Prop where
  ok : (P.info? e).map (fun i => (i.size, i.bytes, i.zero)) = some (sz, bytes, some z)
theorem TI.get {e sz bytes z} (h : TI P e sz bytes z) : ∃ i, P.info? e = some i ∧ i.size = sz ∧ i.bytes = bytes ∧ i.zero = some z := by
  have := h.ok
  cases hi : P.info? e with
  | none => rw [hi] at this; cases this
  | some i => rw [hi] at this; simp at this; exact ⟨i, rfl, this.1, this.2.1, this.2.2⟩
theorem o_append' {α : Type} {kd : Kd α} {t tx e e' : TypeId} {x y : Operand} {s v : Value} {it : Item'} {xs ys : List α} {z : Value} {F : Item' → Items} {bytes : Nat} (ht : P.underlying t = some (.slice e)) (htx : P.underlying tx = some (.slice e')) (hT : TI P e kd.sz bytes z) (hzl : Nat.beq z.cells.size kd.sz = true) (hb : (2 * (xs.length + ys.length) + 192) * bytes ≤ 281474976710656 ∧ xs.length + ys.length ≤ 9223372036854775807)
    (hx : ev n σ x = s) (hy : ev n σ y = v) (hs : Sl kd H e it s xs) (hv : Src kd H L v ys) (hu : ∀ it', Upd L it it' (F it')) :
    OpA P n σ H L (.call { callee := .builtin .append, args := #[x, y], argTypes := #[t, tx] }) (fun v' H' L' => ∃ it', H = H' ∧ L' = F it' ∧ Sl kd H e it' v' (xs ++ ys)) := by
  obtain ⟨i, h1, h2, h3, h4⟩ := hT.get
  exact o_append ht htx h1 h2 h4 hzl (by rw [h3]; exact hb.1) hb.2 hx hy hs hv hu
theorem o_make' {α : Type} {kd : Kd α} {t e : TypeId} {x y : Operand} {K K' : IntKind} {l c : Int} {z : Value} {z0 : α} {bytes : Nat} (ht : P.underlying t = some (.slice e)) (hT : TI P e kd.sz bytes z) (hz0 : kd.rep H z.cells.toList z0) (hx : ev n σ x = .int K l) (hy : ev n σ y = .int K' c) (hb : (bytes : Int) * c ≤ 281474976710656) (hc : c ≤ 9223372036854775807) (hl : 0 ≤ l ∧ l ≤ c) :
    OpA P n σ H L (.makeSlice t x y) (fun v' H' L' => ∃ it, H = H' ∧ L' = it :: L ∧ Sl kd H e it v' (List.replicate l.toNat z0)) := by
  obtain ⟨i, h1, h2, h3, h4⟩ := hT.get
  exact o_make ht h1 h2 h4 hz0 hx hy (by rw [h3]; exact hb) hc hl
theorem o_buildSlice' {α : Type} {kd : Kd α} {t e : TypeId} {m : Nat} {ps : Array (Nat × Operand)} {z : Value} {bytes : Nat} {css : List (List Value)} {xs : List α} {parts : List (Nat × Value)} (ht : P.underlying t = some (.slice e)) (hT : TI P e kd.sz bytes z) (hp : ps.toList.map (fun p => (p.1, ev n σ p.2)) = parts) (hl : litOf kd.sz 0 css parts) (hr : RepsL kd H css xs) (hm : css.length = m) (h24 : m * kd.sz ≤ 16777216) :
    OpA P n σ H L (.buildSlice t m ps) (fun v' H' L' => ∃ it, H = H' ∧ L' = it :: L ∧ Sl kd H e it v' xs) := by
  obtain ⟨i, h1, h2, h3, h4⟩ := hT.get
  exact o_buildSlice ht h1 h2 h4 hp hl hr hm h24
theorem s_box {ops : Array Oper} {i : Nat} {op : Op} {d : Option Nat} {H' : Hp} {L : Items} {Λ : Item' → Items} {Φ : Hp → Value → Item' → (Nat → Item') → Prop} {M : Item' → Nat → Item'} {T : TypeId} {cs : List Value} {it0 z : Item'} (hz : it0 = z) (hn : z = none) (hi : opAt ops i = some (op, d, none)) (h : OpA P n σ H' L op (fun v' H'' L' => ∃ b, v' = .pointer (some ⟨b, 0, none⟩) ∧ H' = H'' ∧ L' = some (b, .cells ⟨cs⟩ T (0, 0)) :: L)) (hL : L = Λ it0) (hu : ∀ it, Upd (Λ none) none it (Λ it)) (hF : ∀ b, Φ H' (.pointer (some ⟨b, 0, none⟩)) (some (b, .cells ⟨cs⟩ T (0, 0))) (M (some (b, .cells ⟨cs⟩ T (0, 0))))) :
    GopA P n ops i σ H' L fun v H'' L'' => ∃ it, L'' = Λ it ∧ H'.le H'' ∧ Φ H'' v it (M it) := by
  subst hn; subst hz
  unfold GopA; rw [hi]
  intro o ho w hw cs'
  obtain ⟨v, w', H2, L2, a, ⟨b, rfl, rfl, rfl⟩, c⟩ := h o ho w hw cs'
  rw [hL] at a
  exact ⟨_, w', H', _, a.put' (hu _), ⟨_, rfl, .refl _, hF b⟩, c⟩
theorem s_sl {α : Type} {kd : Kd α} {ops : Array Oper} {i : Nat} {op : Op} {d : Option Nat} {H' : Hp} {L : Items} {Λ : Item' → Items} {Φ : Hp → Value → Item' → (Nat → Item') → Prop} {M : Item' → Nat → Item'} {T : TypeId} {xs : List α} {it0 z : Item'} (hz : it0 = z) (hn : z = none) (hi : opAt ops i = some (op, d, none)) (h : OpA P n σ H' L op (fun v' H'' L' => ∃ it, H' = H'' ∧ L' = it :: L ∧ Sl kd H' T it v' xs)) (hL : L = Λ it0) (hu : ∀ it, Upd (Λ none) none it (Λ it)) (hF : ∀ v it, Sl kd H' T it v xs → Φ H' v it (M it)) :
    GopA P n ops i σ H' L fun v H'' L'' => ∃ it, L'' = Λ it ∧ H'.le H'' ∧ Φ H'' v it (M it) := by
  subst hn; subst hz
  unfold GopA; rw [hi]
  intro o ho w hw cs'
  obtain ⟨v, w', H2, L2, a, ⟨it, rfl, rfl, hs⟩, c⟩ := h o ho w hw cs'
  rw [hL] at a
  exact ⟨v, w', H', _, a.put' (hu _), ⟨it, rfl, .refl _, hF v it hs⟩, c⟩
/-- A store into a block that the region makes. -/
theorem s_store2 {ops : Array Oper} {i : Nat} {op : Op} {H' : Hp} {L : Items} {Λ : Item' → Items} {Φ : Hp → Value → Item' → (Nat → Item') → Prop} {M : Item' → Nat → Item'} {it0 jt z z0 : Item'} (Λ' : Item' → Items) (z' : Item') (hz : it0 = z0) (hz0 : z0 = none) (hb : jt = z) (hi : opAt ops i = some (op, none, none)) (h : OpA P n σ H' (Λ' z) op (fun v' H'' L'' => v' = undef ∧ H' = H'' ∧ L'' = Λ' z')) (hL : L = Λ' (pk it0 jt)) (hL2 : Λ' z' = Λ z') (hF : Φ H' undef z' (M z')) :
    GopA P n ops i σ H' L fun v H'' L'' => ∃ it, L'' = Λ it ∧ H'.le H'' ∧ Φ H'' v it (M it) := by
  subst hz0; subst hz; subst hb; subst hL
  unfold GopA; rw [hi]
  exact fun o ho => (h o ho).mono fun v H'' L'' ⟨a, b, c⟩ => ⟨z', by rw [c, hL2], by rw [← b]; exact .refl _, by rw [a, ← b]; exact hF⟩
/-- An append to a row that was there. -/
theorem s_app {α : Type} {kd : Kd α} {ops : Array Oper} {i : Nat} {op : Op} {d : Option Nat} {H' : Hp} {L : Items} {Λ : Item' → Items} {Φ : Hp → Value → Item' → (Nat → Item') → Prop} {M : Item' → Nat → Item'} {T : TypeId} {xs : List α} {it0 : Item'} (z : Item') (hz : it0 = z) (hi : opAt ops i = some (op, d, none)) (h : OpA P n σ H' (Λ z) op (fun v' H'' L'' => ∃ it, H' = H'' ∧ L'' = Λ it ∧ Sl kd H' T it v' xs)) (hL : L = Λ it0) (hF : ∀ v it, Sl kd H' T it v xs → Φ H' v it (M it)) :
    GopA P n ops i σ H' L fun v H'' L'' => ∃ it, L'' = Λ it ∧ H'.le H'' ∧ Φ H'' v it (M it) := by
  subst hz; subst hL
  unfold GopA; rw [hi]
  exact fun o ho => (h o ho).mono fun v H'' L'' ⟨it, a, b, c⟩ => ⟨it, b, by rw [← a]; exact .refl _, by rw [← a]; exact hF v it c⟩
/-- A store into a row that was there. -/
theorem s_stEl {α : Type} {kd : Kd α} {ops : Array Oper} {i : Nat} {op : Op} {H' : Hp} {L : Items} {Λ : Item' → Items} {Φ : Hp → Value → Item' → (Nat → Item') → Prop} {M : Item' → Nat → Item'} {T : TypeId} {s0 : Value} {xs : List α} {it0 : Item'} (z : Item') (hz : it0 = z) (hi : opAt ops i = some (op, none, none)) (h : OpA P n σ H' (Λ z) op (fun v' H'' L'' => ∃ it, v' = undef ∧ H' = H'' ∧ L'' = Λ it ∧ Sl kd H' T it s0 xs)) (hL : L = Λ it0) (hF : ∀ it, Sl kd H' T it s0 xs → Φ H' undef it (M it)) :
    GopA P n ops i σ H' L fun v H'' L'' => ∃ it, L'' = Λ it ∧ H'.le H'' ∧ Φ H'' v it (M it) := by
  subst hz; subst hL
  unfold GopA; rw [hi]
  exact fun o ho => (h o ho).mono fun v H'' L'' ⟨it, e, a, b, c⟩ => ⟨it, b, by rw [← a]; exact .refl _, by rw [← a, e]; exact hF it c⟩
theorem opa_none {op : Op} {Ψ : Value → Hp → Items → Prop} (h : OpA P n σ H (none :: L) op Ψ) : OpA P n σ H L op Ψ := fun o ho w hw => h o ho w ⟨hw.os, hw.tape, hw.out, hw.good, hw.held⟩
/-- An append to nil. -/
theorem o_append0 {α : Type} {kd : Kd α} {t tx e e' : TypeId} {x y : Operand} {v : Value} {ys : List α} {z : Value} {bytes : Nat} (ht : P.underlying t = some (.slice e)) (htx : P.underlying tx = some (.slice e')) (hT : TI P e kd.sz bytes z) (hzl : Nat.beq z.cells.size kd.sz = true) (hb : (2 * (0 + ys.length) + 192) * bytes ≤ 281474976710656 ∧ 0 + ys.length ≤ 9223372036854775807)
    (hx : ev n σ x = .slice none 0 0) (hy : ev n σ y = v) (hv : Ro kd H v ys) :
    OpA P n σ H L (.call { callee := .builtin .append, args := #[x, y], argTypes := #[t, tx] }) (fun v' H' L' => ∃ it', H = H' ∧ L' = it' :: L ∧ Sl kd H e it' v' ys) :=
  opa_none (o_append' (xs := []) (F := fun z => z :: L) ht htx hT hzl (by simpa using hb) hx hy (sl_nil _ _ _) hv.src (fun _ => .here))
/-! ### bytes and strings -/
def bytesOf (s : ByteArray) : List Int := s.data.toList.map fun b => (b.toNat : Int)
end
/-- Eventually the same. -/
def Ev {α : Type} (g : Nat → Option α) (r : α) : Prop := ∃ k0, ∀ k, k0 ≤ k → g k = some r
theorem Ev.of {α : Type} {g : Nat → Option α} {r : α} (hm : ∀ k, LeO (g k) (g (k + 1))) {k : Nat} (h : g k = some r) : Ev g r := ⟨k, fun m hk => by
  induction m with
  | zero => have : k = 0 := by omega
            subst this; exact h
  | succ m ih => rcases Nat.lt_or_ge m k with h1 | h1
                 · have : k = m + 1 := by omega
                   subst this; exact h
                 · exact hm m r (ih h1)⟩
theorem Ev.now {α : Type} {r : α} : Ev (fun _ => some r) r := ⟨0, fun _ _ => rfl⟩
theorem Ev.bind {α β : Type} {g : Nat → Option α} {K : Nat → α → Option β} {r : α} {s : β} (h : Ev g r) (h' : Ev (fun k => K k r) s) : Ev (fun k => (g k).bind (K k)) s := by
  obtain ⟨a, ha⟩ := h; obtain ⟨b, hb⟩ := h'
  exact ⟨max a b, fun k hk => by show (g k).bind (K k) = _; rw [ha k (by omega)]; exact hb k (by omega)⟩
theorem Ev.step {α : Type} {g g' : Nat → Option α} {r : α} (hs : ∀ k, g' (k + 1) = g k) (h : Ev g r) : Ev g' r := by
  obtain ⟨a, ha⟩ := h
  refine ⟨a + 1, fun k hk => ?_⟩
  obtain ⟨m, rfl⟩ : ∃ m, k = m + 1 := ⟨k - 1, by omega⟩
  rw [hs]; exact ha m (by omega)
theorem Ev.congr {α : Type} {g g' : Nat → Option α} {r : α} (hs : ∀ k, g' k = g k) (h : Ev g r) : Ev g' r := by
  obtain ⟨a, ha⟩ := h; exact ⟨a, fun k hk => by rw [hs]; exact ha k hk⟩
theorem Ev.ex {α : Type} {g : Nat → Option α} {r : α} (h : Ev g r) : ∃ k, g k = some r := let ⟨a, ha⟩ := h; ⟨a, ha a (Nat.le_refl _)⟩
end Go.Proofs.YtjhpkkhcgpilfaaDoorK

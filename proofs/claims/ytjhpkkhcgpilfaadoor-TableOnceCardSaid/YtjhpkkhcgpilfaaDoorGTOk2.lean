/- A region that draws its order, by what each operation comes to in whatever order. -/
import Derived.Test.YtjhpkkhcgpilfaaDoorGTOk1
import Derived.Orders
namespace Go.Proofs.YtjhpkkhcgpilfaaDoorK
open Go Go.RowKit
set_option linter.unusedVariables false
set_option linter.unusedSimpArgs false
def nth : List Oper → Nat → Option Oper
  | [], _ => none
  | o :: _, 0 => some o
  | _ :: l, i + 1 => nth l i
theorem nth_eq : ∀ (l : List Oper) (i : Nat), nth l i = l[i]?
  | [], i => by simp [nth]
  | o :: l, 0 => by simp [nth]
  | o :: l, i + 1 => by simp [nth, nth_eq l i]
def opAt (ops : Array Oper) (i : Nat) : Option (Op × Option Nat × Option (Nat × Bool)) := (nth ops.toList i).map fun o => (o.op, o.dst, o.guard)
theorem opAt_eq {ops : Array Oper} {i : Nat} {op d g} (h : opAt ops i = some (op, d, g)) : ∃ o, ops[i]? = some o ∧ o.op = op ∧ o.dst = d ∧ o.guard = g := by
  unfold opAt at h
  rw [nth_eq, Array.getElem?_toList] at h
  cases e : ops[i]? with
  | none => rw [e] at h; cases h
  | some o => rw [e] at h; simp only [Option.map_some, Option.some.injEq, Prod.mk.injEq] at h; exact ⟨o, rfl, h.1, h.2.1, h.2.2⟩
def OpA (P : Program) (n : Nat) (σ : Nat → Value) (H : Hp) (L : Items) (op : Op) (Ψ : Value → Hp → Items → Prop) : Prop := ∀ o : Oper, o.op = op → OpR P (ev n σ) H L o Ψ
def Is (v : Value) (H : Hp) (L : Items) : Value → Hp → Items → Prop := fun v' H' L' => v' = v ∧ H' = H ∧ L' = L
def dstAt (ops : Array Oper) (i : Nat) : Option Nat := (ops[i]?).bind (·.dst)
def edge (ops : Array Oper) (i j : Nat) : Bool := ((ops[i]?).map (·.after.any fun e => Region.binds .any e && Nat.beq e.on j)).getD false
/-- j stands before i by edges. -/
def anc (ops : Array Oper) : Nat → Nat → Nat → Bool
  | 0, _, _ => false
  | m + 1, i, j => edge ops i j || (List.range i).any fun l => edge ops i l && anc ops m l j
def drawOk (ops : Array Oper) (p : Nat) : Bool :=
  decide (p ≤ ops.size) &&
  ((List.range ops.size).all fun i => ((ops[i]?).map (·.after.all fun e => !Region.binds .any e || Nat.blt e.on i)).getD true) &&
  ((List.range p).all fun i => (List.range p).all fun j => Nat.beq i j || (dstAt ops i).isNone || dstAt ops i != dstAt ops j) &&
  ((List.range ops.size).all fun i => Nat.blt i p || (List.range i).all fun j => anc ops ops.size i j)
def GopW (P : Program) (n : Nat) (ops : Array Oper) (σ : Nat → Value) (H : Hp) (L : Items) (o : Oper) (Ψ : Value → Hp → Items → Prop) : Prop :=
  match o.guard with
  | none => OpR P (ev n σ) H L o Ψ
  | some (j, want) => ∃ d, dstAt ops j = some d ∧ Nat.blt d n = true ∧ (wants (σ d) want = true → OpR P (ev n σ) H L o Ψ) ∧ (wants (σ d) want = false → Ψ undef H L)
section
variable {P : Program} {f : FB} {n : Nat} {k : List Item} {σ : Nat → Value} {H : Hp} {L : Items} {R : Value → Hp → Items → Prop}
theorem w_gopw {ops : Array Oper} {i : Nat} {rest : List Nat} {o : Oper} {Ψ} (hi : ops[i]? = some o) (h : GopW P n ops σ H L o Ψ)
    (hk : ∀ v H' L', Ψ v H' L' → Wp P f n (.inRegion ops rest :: k) (updo σ o.dst v) H' L' R) : Wp P f n (.inRegion ops (i :: rest) :: k) σ H L R := by
  unfold GopW at h
  split at h
  · rename_i hg; exact w_op hi hg h hk
  · rename_i j want hg
    obtain ⟨d, h1, h2, h4, h5⟩ := h
    refine w_gop hi hg h1 h2 h4 fun v H' L' a b => hk v H' L' ?_
    cases e : wants (σ d) want with
    | true => exact a e
    | false => obtain ⟨rfl, rfl, rfl⟩ := b e; exact h5 e
/-- What holds when those that are listed have been done. -/
def updm {M : Type} (m : Nat → M) (i : Nat) (it : M) : Nat → M := fun j => cond (Nat.beq j i) it (m j)
theorem updm_at {M : Type} (m : Nat → M) (i : Nat) (it : M) : updm m i it i = it := by simp [updm]
theorem updm_ne {M : Type} {m : Nat → M} {i j : Nat} {it : M} (h : j ≠ i) : updm m i it j = m j := by
  have : Nat.beq j i = false := Bool.eq_false_iff.2 fun e => h (Nat.eq_of_beq_eq_true e)
  simp [updm, this]
structure DInv {M : Type} (ops : Array Oper) (p : Nat) (σ : Nat → Value) (H : Hp) (m0 : Nat → M) (F : Nat → Hp → Value → M → (Nat → M) → Prop) (listed : Array Bool) (σ' : Nat → Value) (H' : Hp) (m : Nat → M) : Prop where
  size : listed.size = ops.size
  le : H.le H'
  frame : ∀ t, (∀ j, j < p → dstAt ops j = some t → listed.getD j true = false) → σ' t = σ t
  fact : ∀ i, i < p → listed.getD i true = true → ∃ v, F i H' v (m i) m ∧ ∀ d, dstAt ops i = some d → σ' d = v
  item : ∀ i, i < p → listed.getD i true = false → m i = m0 i
  ext : ∀ i, p ≤ i → m i = m0 i
  down : ∀ i, i < ops.size → listed.getD i true = true → ∀ j, edge ops i j = true → j < ops.size → listed.getD j true = true
  parts : ∀ i, p ≤ i → i < ops.size → listed.getD i true = false
theorem anc_listed {ops : Array Oper} {listed : Array Bool} (hd : ∀ i, i < ops.size → listed.getD i true = true → ∀ j, edge ops i j = true → j < ops.size → listed.getD j true = true) :
    ∀ m i j, anc ops m i j = true → j < ops.size → (∀ l, edge ops i l = true → l < ops.size → listed.getD l true = true) → i ≤ ops.size → listed.getD j true = true
  | 0, i, j, h, _, _, _ => by simp [anc] at h
  | m + 1, i, j, h, hj, hl, hi => by
    simp only [anc, Bool.or_eq_true, List.any_eq_true, List.mem_range, Bool.and_eq_true] at h
    rcases h with h | ⟨l, hli, h1, h2⟩
    · exact hl j h hj
    · exact anc_listed hd m l j h2 hj (fun q hq hqs => hd l (by omega) (hl l h1 (by omega)) q hq hqs) (by omega)
theorem edge_of_ready {ops : Array Oper} {listed : Array Bool} {i : Nat} (h : i ∈ Region.ready .any ops listed) : i < ops.size ∧ listed.getD i true = false ∧ ∀ j, edge ops i j = true → listed.getD j false = true := by
  simp only [Region.ready, List.mem_filter, List.mem_range, Bool.and_eq_true, Bool.not_eq_true'] at h
  refine ⟨h.1, h.2.1, fun j hj => ?_⟩
  unfold edge at hj
  cases ho : ops[i]? with
  | none => rw [ho] at hj; simp at hj
  | some o =>
    rw [ho] at hj
    have h2 := h.2.2
    rw [ho] at h2
    simp only [Option.map_some, Option.getD_some, Array.all_eq_true', Array.any_eq_true', Bool.and_eq_true, Bool.or_eq_true, Bool.not_eq_true'] at h2 hj
    obtain ⟨e, he, hb, hj⟩ := hj
    have := Nat.eq_of_beq_eq_true hj
    subst this
    rcases h2 e he with h3 | h3
    · rw [hb] at h3; cases h3
    · exact h3
theorem ready_of {ops : Array Oper} {listed : Array Bool} {i : Nat} (hi : i < ops.size) (hl : listed.getD i true = false) (he : ∀ o, ops[i]? = some o → ∀ e ∈ o.after, Region.binds .any e = true → listed.getD e.on false = true) : i ∈ Region.ready .any ops listed := by
  simp only [Region.ready, List.mem_filter, List.mem_range, Bool.and_eq_true, Bool.not_eq_true']
  refine ⟨hi, hl, ?_⟩
  have ho : ops[i]? = some ops[i] := Array.getElem?_eq_getElem hi
  rw [ho]
  simp only [Option.map_some, Option.getD_some, Array.all_eq_true', Bool.or_eq_true, Bool.not_eq_true']
  intro e hm
  cases hb : Region.binds .any e with
  | false => exact .inl rfl
  | true => exact .inr (he _ ho e hm hb)
theorem getD_set {l : Array Bool} {i : Nat} (hi : i < l.size) (j : Nat) (b : Bool) : (l.setIfInBounds i true).getD j b = if j = i then true else l.getD j b := by
  simp only [Array.getD_eq_getD_getElem?, Array.getElem?_setIfInBounds]
  by_cases e : i = j
  · subst e; simp [hi]
  · rw [if_neg e, if_neg (fun x => e x.symm)]
theorem w_draw {M : Type} {id : Nat} {ops : Array Oper} {p : Nat} {tl : List Nat} (hm : P.follows .mixedOrders = true) (hck : drawOk ops p = true) (htl : List.range' p (ops.size - p) = tl) (F : Nat → Hp → Value → M → (Nat → M) → Prop) (Lf : (Nat → M) → Items) (m0 : Nat → M) (hF : ∀ i H H' v m m', H.le H' → m' i = m i → (∀ q, edge ops i q = true → m' q = m q) → F i H v (m i) m → F i H' v (m' i) m')
    (hstep : ∀ i o, i < p → ops[i]? = some o → ∀ σ' H' m, H.le H' → (∀ t, (∀ j, j < p → dstAt ops j = some t → anc ops ops.size j i = true) → σ' t = σ t) → (∀ j, edge ops i j = true → j < p → ∃ v, F j H' v (m j) m ∧ ∀ d, dstAt ops j = some d → σ' d = v) → m i = m0 i → (∀ q, edge ops q i = true → m q = m0 q) →
      (∀ q, q < ops.size → anc ops ops.size q i = true → m q = m0 q) → (∀ j, j < p → anc ops ops.size i j = true → ∃ v, F j H' v (m j) m) → (∀ j, j < p → m j = m0 j ∨ ∃ v, F j H' v (m j) m) →
      GopW P n ops σ' H' (Lf m) o (fun v H'' L'' => ∃ it, L'' = Lf (updm m i it) ∧ H'.le H'' ∧ F i H'' v it (updm m i it)))
    (hfin : ∀ σ' H' m, H.le H' → (∀ t, (∀ j, j < p → dstAt ops j ≠ some t) → σ' t = σ t) → (∀ i, i < p → ∃ v, F i H' v (m i) m ∧ ∀ d, dstAt ops i = some d → σ' d = v) → (∀ i, p ≤ i → m i = m0 i) → Wp P f n (.inRegion ops tl :: k) σ' H' (Lf m) R) :
    Wp P f n (.code (.region id ops true) :: k) σ H (Lf m0) R := by
  subst htl
  simp only [drawOk, Bool.and_eq_true, decide_eq_true_eq, List.all_eq_true, List.mem_range, Bool.or_eq_true] at hck
  obtain ⟨⟨⟨hp, hon⟩, hds⟩, hta⟩ := hck
  have hlt : ∀ i o, ops[i]? = some o → i < ops.size := fun i o h => by
    rcases Nat.lt_or_ge i ops.size with h1 | h1
    · exact h1
    · rw [Array.getElem?_eq_none h1] at h; cases h
  have hon' : ∀ i o, ops[i]? = some o → ∀ e ∈ o.after, Region.binds .any e = true → e.on < i := fun i o ho e he hb => by
    have := hon i (hlt i o ho)
    rw [ho] at this
    simp only [Option.map_some, Option.getD_some, Array.all_eq_true', Bool.or_eq_true, Bool.not_eq_true'] at this
    rcases this e he with h | h
    · rw [hb] at h; cases h
    · exact Nat.le_of_ble_eq_true h
  have hedge : ∀ i j, edge ops i j = true → j < i ∧ i < ops.size := fun i j h => by
    unfold edge at h
    cases ho : ops[i]? with
    | none => rw [ho] at h; simp at h
    | some o =>
      rw [ho] at h
      simp only [Option.map_some, Option.getD_some, Array.any_eq_true', Bool.and_eq_true] at h
      obtain ⟨e, he, hb, hj⟩ := h
      have := Nat.eq_of_beq_eq_true hj
      subst this
      exact ⟨hon' i o ho e he hb, hlt i o ho⟩
  have hds' : ∀ i j d, i < p → j < p → i ≠ j → dstAt ops i = some d → dstAt ops j ≠ some d := fun i j d hi hj hne h1 h2 => by
    rcases hds i hi j hj with (h | h) | h
    · exact hne (Nat.eq_of_beq_eq_true h)
    · rw [h1] at h; cases h
    · rw [h1, h2] at h; simp at h
  -- the last part, in order
  have tail : ∀ fuel q t (listed : Array Bool), listed.size = ops.size → p ≤ q → q ≤ ops.size → fuel + q = ops.size → (∀ i, i < q → listed.getD i true = true) → (∀ i, q ≤ i → i < ops.size → listed.getD i true = false) →
      Region.linearise.go .any ops fuel t listed [] = List.range' q (ops.size - q) := by
    intro fuel
    induction fuel with
    | zero => intro q t listed _ _ hq hf _ _; simp [Region.linearise.go, show ops.size - q = 0 by omega]
    | succ fuel ih =>
      intro q t listed hsz hpq hq hf h1 h2
      have hr : Region.ready .any ops listed = [q] := by
        have hqr : q ∈ Region.ready .any ops listed := ready_of (by omega) (h2 q (Nat.le_refl _) (by omega)) fun o ho e he hb => by
          have hlt' := hon' q o ho e he hb
          have := h1 e.on hlt'
          simp only [Array.getD_eq_getD_getElem?] at this ⊢
          rw [Array.getElem?_eq_getElem (by omega)] at this ⊢; exact this
        have honly : ∀ i ∈ Region.ready .any ops listed, i = q := fun i hi => by
          obtain ⟨hi1, hi2, hi3⟩ := edge_of_ready hi
          rcases Nat.lt_trichotomy i q with h | h | h
          · rw [h1 i h] at hi2; cases hi2
          · exact h
          · have ha := hta i hi1
            rcases ha with ha | ha
            · exact absurd (Nat.le_of_ble_eq_true ha) (by omega)
            · have := anc_listed (listed := listed) (ops := ops) (fun a ha hla b hb hbs => by
                rcases Nat.lt_or_ge a q with hq' | hq'
                · exact h1 b (by have := (hedge a b hb).1; omega)
                · rw [h2 a hq' ha] at hla; cases hla) _ i q (ha q h) (by omega) (fun l hl hls => by
                have := hi3 l hl
                simp only [Array.getD_eq_getD_getElem?] at this ⊢
                rw [Array.getElem?_eq_getElem (by omega)] at this ⊢; exact this) (by omega)
              rw [h2 q (Nat.le_refl _) (by omega)] at this; cases this
        have hnd : (Region.ready .any ops listed).Nodup := List.Pairwise.filter _ List.nodup_range
        generalize Region.ready .any ops listed = l at *
        match l, hqr, honly, hnd with
        | [a], _, ho, _ => rw [ho a (List.mem_cons_self ..)]
        | a :: b :: l', _, ho, hn =>
          exfalso
          have e1 := ho a (List.mem_cons_self ..); have e2 := ho b (List.mem_cons_of_mem _ (List.mem_cons_self ..))
          rw [e1, e2] at hn; simp at hn
      simp only [Region.linearise.go]
      change (match (Region.ready .any ops listed)[t % (Region.ready .any ops listed).length]? with
        | some i => Region.linearise.go .any ops fuel (t / (Region.ready .any ops listed).length) (listed.setIfInBounds i true) [i]
        | none => [].reverse) = _
      rw [hr]
      simp only [List.length_singleton, Nat.mod_one, List.getElem?_cons_zero]
      rw [linearise_go_acc, List.reverse_singleton, ih (q + 1) _ _ (by simpa using hsz) (by omega) (by omega) (by omega) (fun i hi => ?_) (fun i hi hi2 => ?_)]
      · rw [show ops.size - q = (ops.size - (q + 1)) + 1 by omega, List.range'_succ]; rfl
      · rw [getD_set (by omega)]; split
        · rfl
        · exact h1 i (by omega)
      · rw [getD_set (by omega), if_neg (by omega)]; exact h2 i (by omega) hi2
  -- the first part, in any order
  have first : ∀ fuel t (listed : Array Bool) σ' H' m, DInv ops p σ H m0 F listed σ' H' m → ((List.range ops.size).filter fun i => !listed.getD i true).length = fuel →
      Wp P f n (.inRegion ops (Region.linearise.go .any ops fuel t listed []) :: k) σ' H' (Lf m) R := by
    intro fuel
    induction fuel with
    | zero =>
      intro t listed σ' H' m inv hf
      have hall : ∀ i, i < ops.size → listed.getD i true = true := fun i hi => by
        have := List.eq_nil_of_length_eq_zero hf
        rw [List.filter_eq_nil_iff] at this
        simpa using this i (List.mem_range.2 hi)
      have hpe : p = ops.size := by
        rcases Nat.lt_or_ge p ops.size with h | h
        · have := inv.parts p (Nat.le_refl _) h; rw [hall p h] at this; cases this
        · omega
      have := hfin σ' H' m inv.le (fun t ht => inv.frame t fun j hj e => absurd e (ht j hj)) (fun i hi => inv.fact i hi (hall i (by omega))) inv.ext
      rw [show ops.size - p = 0 by omega] at this
      simpa [Region.linearise.go] using this
    | succ fuel ih =>
      intro t listed σ' H' m inv hf
      by_cases hdone : ∀ i, i < p → listed.getD i true = true
      · -- all of the first part is done
        have hlen : fuel + 1 + p = ops.size := by
          have e : ((List.range ops.size).filter fun i => !listed.getD i true) = List.range' p (ops.size - p) := by
            rw [show List.range ops.size = List.range' 0 p ++ List.range' p (ops.size - p) by
              have := List.range'_append_1 (s := 0) (m := p) (n := ops.size - p)
              rw [Nat.zero_add, show p + (ops.size - p) = ops.size by omega] at this
              rw [List.range_eq_range', this]]
            rw [List.filter_append, List.filter_eq_nil_iff.2, List.nil_append, List.filter_eq_self.2]
            · intro i hi; rw [List.mem_range'_1] at hi; simpa using inv.parts i hi.1 (by omega)
            · intro i hi; rw [List.mem_range'_1] at hi; simpa using hdone i (by omega)
          rw [e, List.length_range'] at hf; omega
        rw [tail (fuel + 1) p t listed inv.size (Nat.le_refl _) hp hlen hdone inv.parts]
        exact hfin σ' H' m inv.le (fun t ht => inv.frame t fun j hj e => absurd e (ht j hj)) (fun i hi => inv.fact i hi (hdone i hi)) inv.ext
      · simp only [Region.linearise.go]
        change Wp P f n (.inRegion ops (match (Region.ready .any ops listed)[t % (Region.ready .any ops listed).length]? with
          | some i => Region.linearise.go .any ops fuel (t / (Region.ready .any ops listed).length) (listed.setIfInBounds i true) [i]
          | none => [].reverse) :: k) σ' H' (Lf m) R
        have hex : ∃ i, i < p ∧ listed.getD i true = false := by
          refine Classical.byContradiction fun hno => hdone fun i hi => ?_
          cases e : listed.getD i true with
          | true => rfl
          | false => exact absurd ⟨i, hi, e⟩ hno
        have hne : Region.ready .any ops listed ≠ [] := by
          obtain ⟨i, hi, hl⟩ := hex
          induction i using Nat.strongRecOn with
          | _ i ihi =>
            by_cases hsm : ∃ j, j < i ∧ listed.getD j true = false
            · obtain ⟨j, hji, hj⟩ := hsm; exact ihi j hji (by omega) hj
            · have : i ∈ Region.ready .any ops listed := ready_of (by omega) hl fun o ho e he hb => by
                have hlt' := hon' i o ho e he hb
                cases hx : listed.getD e.on true with
                | false => exact absurd ⟨e.on, hlt', hx⟩ hsm
                | true =>
                  simp only [Array.getD_eq_getD_getElem?] at hx ⊢
                  have hs := inv.size
                  rw [Array.getElem?_eq_getElem (by omega)] at hx ⊢; exact hx
              exact List.ne_nil_of_mem this
        have hin : t % (Region.ready .any ops listed).length < (Region.ready .any ops listed).length := Nat.mod_lt _ (by cases h : Region.ready .any ops listed with | nil => exact absurd h hne | cons a l => simp)
        rw [List.getElem?_eq_getElem hin]
        generalize hi : (Region.ready .any ops listed)[t % (Region.ready .any ops listed).length] = i
        have hmem : i ∈ Region.ready .any ops listed := hi ▸ List.getElem_mem hin
        obtain ⟨hi1, hi2, hi3⟩ := edge_of_ready hmem
        have hi3' : ∀ l, edge ops i l = true → l < ops.size → listed.getD l true = true := fun l hl hls => by
          have := hi3 l hl
          simp only [Array.getD_eq_getD_getElem?] at this ⊢
          have hs := inv.size
          rw [Array.getElem?_eq_getElem (by omega)] at this ⊢; exact this
        have hip : i < p := by
          rcases Nat.lt_or_ge i p with h | h
          · exact h
          · rcases hta i hi1 with ha | ha
            · exact Nat.le_of_ble_eq_true ha
            · obtain ⟨j, hj, hl⟩ := hex
              have := anc_listed inv.down _ i j (ha j (by omega)) (by omega) hi3' (by omega)
              rw [hl] at this; cases this
        have ho : ops[i]? = some ops[i] := Array.getElem?_eq_getElem hi1
        simp only []
        rw [linearise_go_acc, List.reverse_singleton, List.singleton_append]
        refine w_gopw ho (hstep i _ hip ho σ' H' m inv.le (fun t ht => inv.frame t fun j hj e => by
          cases el : listed.getD j true with
          | false => rfl
          | true =>
            have := anc_listed inv.down _ j i (ht j hj e) hi1 (fun l hl hls => inv.down j (by omega) el l hl hls) (by omega)
            rw [hi2] at this; cases this) (fun j he hj => inv.fact j hj (hi3' j he (by omega))) (inv.item i hip hi2) (fun q hq => by
          rcases Nat.lt_or_ge q p with h1 | h1
          · refine inv.item q h1 ?_
            cases e : listed.getD q true with
            | false => rfl
            | true => have := inv.down q (by omega) e i hq hi1; rw [hi2] at this; cases this
          · exact inv.ext q h1) (fun q hqs hq => by
          rcases Nat.lt_or_ge q p with h1 | h1
          · refine inv.item q h1 ?_
            cases e : listed.getD q true with
            | false => rfl
            | true =>
              have := anc_listed inv.down _ q i hq hi1 (fun l hl hls => inv.down q hqs e l hl hls) (by omega)
              rw [hi2] at this; cases this
          · exact inv.ext q h1) (fun j hj ha => by
          obtain ⟨v, h1, _⟩ := inv.fact j hj (anc_listed inv.down _ i j ha (by omega) hi3' (by omega))
          exact ⟨v, h1⟩) (fun j hj => by
          cases e : listed.getD j true with
          | false => exact .inl (inv.item j hj e)
          | true => obtain ⟨v, h1, _⟩ := inv.fact j hj e; exact .inr ⟨v, h1⟩)) ?_
        rintro v H'' L'' ⟨it, rfl, hle, hFi⟩
        have hdi : dstAt ops i = (ops[i]).dst := by unfold dstAt; rw [ho]; rfl
        refine ih _ _ _ _ _ ⟨by simpa using inv.size, inv.le.trans hle, fun t' ht' => ?_, fun j hj hlj => ?_, fun j hj hlj => ?_, fun j hj => by rw [updm_ne (by omega)]; exact inv.ext j hj, fun a ha hla b hb hbs => ?_, fun a ha1 ha2 => ?_⟩ ?_
        · have hf2 : ∀ j, j < p → dstAt ops j = some t' → listed.getD j true = false := fun j hj e2 => by
            have := ht' j hj e2
            rw [getD_set (by rw [inv.size]; exact hi1)] at this
            split at this
            · cases this
            · exact this
          cases e : (ops[i]).dst with
          | none => exact inv.frame t' hf2
          | some d =>
            have : t' ≠ d := fun e' => by have := ht' i hip (by rw [hdi, e, e']); rw [getD_set (by rw [inv.size]; exact hi1), if_pos rfl] at this; cases this
            show upd σ' d v t' = _
            rw [upd_ne this]; exact inv.frame t' hf2
        · by_cases e : j = i
          · subst e
            refine ⟨v, by rw [updm_at]; exact hFi, fun d hd => ?_⟩
            rw [hdi] at hd; rw [hd]; show upd σ' d v d = _; rw [upd_at]
          · rw [getD_set (by rw [inv.size]; exact hi1), if_neg e] at hlj
            obtain ⟨v', h1, h2⟩ := inv.fact j hj hlj
            refine ⟨v', hF j _ _ _ _ _ hle (updm_ne e) (fun q hq => updm_ne fun eq => ?_) h1, fun d hd => ?_⟩
            · subst eq
              have := inv.down j (by omega) hlj q hq hi1
              rw [hi2] at this; cases this
            cases e' : (ops[i]).dst with
            | none => exact h2 d hd
            | some d' =>
              have : d ≠ d' := fun e'' => hds' j i d hj hip e hd (by rw [hdi, e', e''])
              show upd σ' d' v d = _
              rw [upd_ne this]; exact h2 d hd
        · by_cases e : j = i
          · subst e; rw [getD_set (by rw [inv.size]; exact hi1), if_pos rfl] at hlj; cases hlj
          · rw [getD_set (by rw [inv.size]; exact hi1), if_neg e] at hlj
            rw [updm_ne e]; exact inv.item j hj hlj
        · rw [getD_set (by rw [inv.size]; exact hi1)] at hla ⊢
          split
          · rfl
          · split at hla
            · rename_i e; subst e; exact hi3' b hb hbs
            · exact inv.down a ha hla b hb hbs
        · rw [getD_set (by rw [inv.size]; exact hi1), if_neg (by omega)]; exact inv.parts a ha1 ha2
        · have hnd : (List.range ops.size).Nodup := List.nodup_range
          have key : ∀ (l : List Nat), l.Nodup → i ∈ l → (l.filter fun j => !(listed.setIfInBounds i true).getD j true).length + 1 = (l.filter fun j => !listed.getD j true).length := by
            intro l
            induction l with
            | nil => intro _ h; cases h
            | cons a l ihl =>
              intro hn hm'
              simp only [List.filter_cons, getD_set (show i < listed.size by rw [inv.size]; exact hi1)]
              rcases List.mem_cons.1 hm' with e | hm''
              · subst e
                have hnot : i ∉ l := (List.nodup_cons.1 hn).1
                simp only [if_true, Bool.not_true, Bool.false_eq_true, if_false, hi2, Bool.not_false]
                have : l.filter (fun j => !(if j = i then true else listed.getD j true)) = l.filter (fun j => !listed.getD j true) := List.filter_congr fun j hj => by rw [if_neg (show ¬ j = i from fun e => hnot (e ▸ hj))]
                rw [this]; simp
              · have hne' : a ≠ i := fun e => (List.nodup_cons.1 hn).1 (e ▸ hm'')
                rw [if_neg hne']
                have := ihl (List.nodup_cons.1 hn).2 hm''
                simp only [getD_set (show i < listed.size by rw [inv.size]; exact hi1)] at this
                split
                · simp only [List.length_cons]; omega
                · exact this
          have := key _ hnd (List.mem_range.2 hi1)
          omega
  intro w ho cs
  have hs : step P (lone (St f (.code (.region id ops true) :: k) (fr n σ)) cs w) = .next (lone (St f (.inRegion ops (Region.schedule (P.follows .mixedOrders) ops (w.tape w.drawn (.order f.fn id))) :: k) (fr n σ)) cs { w with drawn := w.drawn + 1 }) := by
    rw [St_at, stepR_region_draw]; rfl
  simp only [Region.schedule, hm, Bool.true_or, if_true, Region.linearise] at hs
  have h0 : ∀ i, i < ops.size → (Array.replicate ops.size false).getD i true = false := fun i hi => by
    rw [Array.getD_eq_getD_getElem?, Array.getElem?_replicate, if_pos hi]; rfl
  have := first ops.size (w.tape w.drawn (.order f.fn id)) (Array.replicate ops.size false) σ H m0 ⟨by simp, .refl H, fun _ _ => rfl, fun i hi hl => (by rw [h0 i (by omega)] at hl; cases hl), fun _ _ _ => rfl, fun _ _ => rfl,
    fun i hi hl => (by rw [h0 i hi] at hl; cases hl), fun i _ hi => h0 i hi⟩ (by
      rw [List.filter_eq_self.2]
      · simp
      · intro i hi; rw [List.mem_range] at hi; rw [h0 i hi]; rfl)
  obtain ⟨v2, w2, H2, L2, fr', a2, b2⟩ := this _ ho.drew cs
  exact ⟨v2, w2, H2, L2, fr', .head hs a2, b2⟩

/-! ### the same, as a walk types it -/
abbrev Dep := Nat × Option Nat
def DepK {M : Type} (F : Nat → Hp → Value → M → (Nat → M) → Prop) (H' : Hp) (m : Nat → M) : List Dep → (Nat → Value) → ((Nat → Value) → Prop) → Prop
  | [], σ, K => K σ
  | j :: ds, σ, K => ∀ v, F j.1 H' v (m j.1) m → DepK F H' m ds (updo σ j.2 v) K
def GopA (P : Program) (n : Nat) (ops : Array Oper) (i : Nat) (σ : Nat → Value) (H : Hp) (L : Items) (Ψ : Value → Hp → Items → Prop) : Prop :=
  match opAt ops i with
  | some (op, _, none) => OpA P n σ H L op Ψ
  | some (op, _, some (j, want)) => ∃ d, (nth ops.toList j).bind (·.dst) = some d ∧ Nat.blt d n = true ∧ (wants (σ d) want = true → OpA P n σ H L op Ψ) ∧ (wants (σ d) want = false → Ψ undef H L)
  | none => False
def StepK {M : Type} (P : Program) (n : Nat) (ops : Array Oper) (F : Nat → Hp → Value → M → (Nat → M) → Prop) (Lf : (Nat → M) → Items) (m0 : Nat → M) (H : Hp) (σ : Nat → Value) (i : Nat) (ds : List Dep) : Prop :=
  ∀ H' m, H.le H' → m i = m0 i → (∀ q, edge ops q i = true → m q = m0 q) → DepK F H' m ds σ fun σ' => GopA P n ops i σ' H' (Lf m) fun v H'' L'' => ∃ it, L'' = Lf (updm m i it) ∧ H'.le H'' ∧ F i H'' v it (updm m i it)
def StepsK {M : Type} (P : Program) (n : Nat) (ops : Array Oper) (F : Nat → Hp → Value → M → (Nat → M) → Prop) (Lf : (Nat → M) → Items) (m0 : Nat → M) (H : Hp) (σ : Nat → Value) : Nat → List (List Dep) → Prop
  | _, [] => True
  | i, ds :: r => StepK P n ops F Lf m0 H σ i ds ∧ StepsK P n ops F Lf m0 H σ (i + 1) r
/-- The same, with more that is known at each step. -/
def StepX {M : Type} (P : Program) (n : Nat) (ops : Array Oper) (F : Nat → Hp → Value → M → (Nat → M) → Prop) (Lf : (Nat → M) → Items) (m0 : Nat → M) (H : Hp) (σ : Nat → Value) (X : Nat → Hp → (Nat → M) → Prop) (i : Nat) (ds : List Dep) : Prop :=
  ∀ H' m, H.le H' → m i = m0 i → (∀ q, edge ops q i = true → m q = m0 q) → X i H' m → DepK F H' m ds σ fun σ' => GopA P n ops i σ' H' (Lf m) fun v H'' L'' => ∃ it, L'' = Lf (updm m i it) ∧ H'.le H'' ∧ F i H'' v it (updm m i it)
def StepsX {M : Type} (P : Program) (n : Nat) (ops : Array Oper) (F : Nat → Hp → Value → M → (Nat → M) → Prop) (Lf : (Nat → M) → Items) (m0 : Nat → M) (H : Hp) (σ : Nat → Value) (X : Nat → Hp → (Nat → M) → Prop) : Nat → List (List Dep) → Prop
  | _, [] => True
  | i, ds :: r => StepX P n ops F Lf m0 H σ X i ds ∧ StepsX P n ops F Lf m0 H σ X (i + 1) r
def FinK {M : Type} (F : Nat → Hp → Value → M → (Nat → M) → Prop) (H' : Hp) (K : (Nat → Value) → (Nat → M) → Prop) : Nat → List (Option Nat) → (Nat → Value) → (Nat → M) → Prop
  | _, [], σ, m => K σ m
  | i, d :: r, σ, m => ∀ v it, F i H' v it (updm m i it) → FinK F H' K (i + 1) r (updo σ d v) (updm m i it)
theorem depK_nil {M : Type} {F : Nat → Hp → Value → M → (Nat → M) → Prop} {H' : Hp} {m : Nat → M} {σ : Nat → Value} {K : (Nat → Value) → Prop} (h : K σ) : DepK F H' m [] σ K := h
def notSelect : Op → Bool
  | .select _ _ => false
  | _ => true
def depsOk (ops : Array Oper) (p : Nat) (ds : List (List Dep)) (dsts : List (Option Nat)) : Bool :=
  Nat.beq ds.length p && Nat.beq dsts.length p &&
  ((List.range p).all fun i =>
    (dsts[i]?.map fun d => d == dstAt ops i).getD false &&
    ((ds[i]?).map fun l => l.all fun j => edge ops i j.1 && Nat.blt j.1 p && (dstAt ops j.1 == j.2)).getD false &&
    ((ops[i]?).map fun o => notSelect o.op && (o.looksAt ops).all fun t => ((ds[i]?).getD []).any (fun j => j.2 == some t) || (List.range p).all fun j => dstAt ops j != some t || anc ops ops.size j i).getD false)
section
variable {P : Program} {f : FB} {n : Nat} {k : List Item} {σ : Nat → Value} {H : Hp} {R : Value → Hp → Items → Prop}
theorem ev_congr {σ σ' : Nat → Value} {x : Operand} (h : ∀ t, x = .tmp t → σ t = σ' t) : ev n σ x = ev n σ' x := by
  cases x with
  | tmp t => simp only [ev, h t rfl]
  | _ => rfl
theorem depK_chain {M : Type} {F : Nat → Hp → Value → M → (Nat → M) → Prop} {H' : Hp} {m : Nat → M} {K : (Nat → Value) → Prop} {σ' : Nat → Value} : ∀ (l : List Dep) (σ0 : Nat → Value), DepK F H' m l σ0 K → (∀ j ∈ l, ∃ v, F j.1 H' v (m j.1) m ∧ ∀ d, j.2 = some d → σ' d = v) →
    ∃ σd, K σd ∧ ∀ t, σd t = σ' t ∨ ((∀ j ∈ l, j.2 ≠ some t) ∧ σd t = σ0 t)
  | [], σ0, h, _ => ⟨σ0, h, fun t => .inr ⟨by simp, rfl⟩⟩
  | j :: l, σ0, h, hv => by
    obtain ⟨v, h1, h2⟩ := hv j (List.mem_cons_self ..)
    obtain ⟨σd, h3, h4⟩ := depK_chain l _ (h v h1) fun j' hj' => hv j' (List.mem_cons_of_mem _ hj')
    refine ⟨σd, h3, fun t => ?_⟩
    rcases h4 t with h5 | ⟨h5, h6⟩
    · exact .inl h5
    · by_cases e : j.2 = some t
      · left; rw [h6, e]; show upd σ0 t v t = _; rw [upd_at, h2 t e]
      · right
        refine ⟨fun j' hj' => ?_, ?_⟩
        · rcases List.mem_cons.1 hj' with rfl | h7
          · exact e
          · exact h5 j' h7
        · rw [h6]
          cases e2 : j.2 with
          | none => rfl
          | some d => show upd σ0 d v t = _; exact upd_ne fun e3 => e (by rw [e2, e3])
theorem w_drawnX {M : Type} {id : Nat} {ops : Array Oper} {p : Nat} {tl : List Nat} (ds : List (List Dep)) (dsts : List (Option Nat)) (F : Nat → Hp → Value → M → (Nat → M) → Prop) (Lf : (Nat → M) → Items) (m0 : Nat → M) (hm : P.follows .mixedOrders = true) (hck : drawOk ops p = true) (hdk : depsOk ops p ds dsts = true) (htl : List.range' p (ops.size - p) = tl)
    (hF : ∀ i H H' v m m', H.le H' → m' i = m i → (∀ q, edge ops i q = true → m' q = m q) → F i H v (m i) m → F i H' v (m' i) m') {X : Nat → Hp → (Nat → M) → Prop} (hX : ∀ i H' m, i < p → (∀ q, q < ops.size → anc ops ops.size q i = true → m q = m0 q) → (∀ j, j < p → anc ops ops.size i j = true → ∃ v, F j H' v (m j) m) → (∀ j, j < p → m j = m0 j ∨ ∃ v, F j H' v (m j) m) → X i H' m) (hstep : StepsX P n ops F Lf m0 H σ X 0 ds) (hfin : ∀ H', H.le H' → FinK F H' (fun σ' m => Wp P f n (.inRegion ops tl :: k) σ' H' (Lf m) R) 0 dsts σ m0) :
    Wp P f n (.code (.region id ops true) :: k) σ H (Lf m0) R := by
  have hck' := hck
  simp only [drawOk, Bool.and_eq_true, decide_eq_true_eq, List.all_eq_true, List.mem_range, Bool.or_eq_true] at hck'
  obtain ⟨⟨⟨hp, -⟩, hds⟩, -⟩ := hck'
  have hds' : ∀ i j d, i < p → j < p → i ≠ j → dstAt ops i = some d → dstAt ops j ≠ some d := fun i j d hi hj hne h1 h2 => by
    rcases hds i hi j hj with (h | h) | h
    · exact hne (Nat.eq_of_beq_eq_true h)
    · rw [h1] at h; cases h
    · rw [h1, h2] at h; simp at h
  simp only [depsOk, Bool.and_eq_true, List.all_eq_true, List.mem_range] at hdk
  obtain ⟨⟨hl1, hl2⟩, hdk⟩ := hdk
  have hl1 := Nat.eq_of_beq_eq_true hl1
  have hl2 := Nat.eq_of_beq_eq_true hl2
  have hsteps : ∀ (l : List (List Dep)) (i : Nat), StepsX P n ops F Lf m0 H σ X i l → ∀ j dl, l[j]? = some dl → StepX P n ops F Lf m0 H σ X (i + j) dl := by
    intro l
    induction l with
    | nil => intro i _ j dl h; cases h
    | cons a l ih =>
      intro i h j dl hj
      cases j with
      | zero => cases hj; exact h.1
      | succ j => have := ih (i + 1) h.2 j dl hj; rwa [show i + 1 + j = i + (j + 1) by omega] at this
  have hedge' : ∀ i j, edge ops i j = true → j < i := fun i j h => by
    have hck2 := hck
    simp only [drawOk, Bool.and_eq_true, decide_eq_true_eq, List.all_eq_true, List.mem_range, Bool.or_eq_true] at hck2
    have hon := hck2.1.1.2
    unfold edge at h
    cases ho : ops[i]? with
    | none => rw [ho] at h; simp at h
    | some o =>
      rw [ho] at h
      simp only [Option.map_some, Option.getD_some, Array.any_eq_true', Bool.and_eq_true] at h
      obtain ⟨e, he, hb, hj⟩ := h
      have := Nat.eq_of_beq_eq_true hj
      subst this
      have hi : i < ops.size := by
        rcases Nat.lt_or_ge i ops.size with h1 | h1
        · exact h1
        · rw [Array.getElem?_eq_none h1] at ho; cases ho
      have := hon i hi
      rw [ho] at this
      simp only [Option.map_some, Option.getD_some, Array.all_eq_true', Bool.or_eq_true, Bool.not_eq_true'] at this
      rcases this e he with h | h
      · rw [hb] at h; cases h
      · exact Nat.le_of_ble_eq_true h
  refine w_draw hm hck htl F Lf m0 hF (fun i o hi ho σ' H' m hH hfr hd hmi hmq hx1 hx2 hx3 => ?_) (fun σ' H' m hH hfr hv hext => ?_)
  · obtain ⟨⟨h1, h2⟩, h3⟩ := hdk i hi
    have hil : i < ds.length := by omega
    rw [List.getElem?_eq_getElem hil] at h2 h3
    simp only [Option.map_some, Option.getD_some, List.all_eq_true, Bool.and_eq_true] at h2
    rw [ho] at h3
    simp only [Option.map_some, Option.getD_some, List.all_eq_true, Bool.and_eq_true, Bool.or_eq_true, List.any_eq_true] at h3
    have hs := hsteps ds 0 hstep i ds[i] (List.getElem?_eq_getElem hil)
    rw [Nat.zero_add] at hs
    obtain ⟨σd, hg, hσ⟩ := depK_chain (σ' := σ') ds[i] σ (hs H' m hH hmi hmq (hX i H' m hi hx1 hx2 hx3)) fun j hj => by
      obtain ⟨⟨h4, h5⟩, h6⟩ := h2 j hj
      obtain ⟨v, h7, h8⟩ := hd j.1 h4 (Nat.le_of_ble_eq_true h5)
      exact ⟨v, h7, fun d hd' => h8 d (by rw [← hd']; exact eq_of_beq h6)⟩
    have hlook : ∀ t ∈ o.looksAt ops, σd t = σ' t := fun t ht => by
      rcases hσ t with h | ⟨h4, h5⟩
      · exact h
      · rcases h3.2 t ht with ⟨j, hj, hj2⟩ | h6
        · exact absurd (eq_of_beq hj2) (h4 j hj)
        · rw [h5, hfr t fun j hj e => by have := h6 j (List.mem_range.2 hj); simpa [e] using this]
    have hop : ∀ x ∈ o.op.operands, ev n σ' x = ev n σd x := fun x hx => ev_congr fun t e => (hlook t (by
      subst e
      simp only [Oper.looksAt, List.mem_append, List.mem_filterMap]
      exact .inl ⟨_, Array.mem_toList_iff.2 hx, rfl⟩)).symm
    have hns : ∀ cs b, o.op ≠ .select cs b := fun cs b e => by have := h3.1; rw [e] at this; cases this
    have hx : execOp (ev n σ') o = execOp (ev n σd) o := execOp_congr o hns hop
    have hopr : ∀ {L Ψ}, OpR P (ev n σd) H' L o Ψ → OpR P (ev n σ') H' L o Ψ := fun h => by unfold OpR at h ⊢; rw [hx]; exact h
    unfold GopA at hg
    have hat : opAt ops i = some (o.op, o.dst, o.guard) := by
      unfold opAt; rw [nth_eq, Array.getElem?_toList, ho]; rfl
    rw [hat] at hg
    unfold GopW
    cases hgd : o.guard with
    | none => rw [hgd] at hg; exact hopr (hg o rfl)
    | some jw =>
      obtain ⟨j, want⟩ := jw
      rw [hgd] at hg
      obtain ⟨d, e1, e2, e4, e5⟩ := hg
      have e1' : dstAt ops j = some d := by unfold dstAt; rw [nth_eq, Array.getElem?_toList] at e1; exact e1
      have hs : σd d = σ' d := hlook d (by
        simp only [Oper.looksAt, List.mem_append, hgd]
        right
        show d ∈ (dstAt ops j).toList
        rw [e1']; simp)
      rw [hs] at e4 e5
      exact ⟨d, e1', e2, fun e => hopr (e4 e o rfl), e5⟩
  · have key : ∀ (r : List (Option Nat)) (i : Nat) (σ1 : Nat → Value) (m1 : Nat → M), i + r.length = p → (∀ j, dsts[i + j]? = r[j]?) → (∀ t, (∀ j, i ≤ j → j < p → dstAt ops j ≠ some t) → σ1 t = σ' t) → (∀ j, j < i ∨ p ≤ j → m1 j = m j) →
        FinK F H' (fun σ' m => Wp P f n (.inRegion ops tl :: k) σ' H' (Lf m) R) i r σ1 m1 → ∃ m2, (∀ j, m2 j = m j) ∧ Wp P f n (.inRegion ops tl :: k) σ' H' (Lf m2) R := by
      intro r
      induction r with
      | nil =>
        intro i σ1 m1 hi _ hσ hm1 h
        have e : σ1 = σ' := funext fun t => hσ t fun j h1 h2 => by simp at hi; omega
        subst e
        exact ⟨m1, fun j => hm1 j (by simp at hi; omega), h⟩
      | cons d r ih =>
        intro i σ1 m1 hi hdl hσ hm1 h
        have hip : i < p := by simp at hi; omega
        obtain ⟨v, h1, h2⟩ := hv i hip
        have hdi : dstAt ops i = d := by
          have h4 := (hdk i hip).1.1
          have h3 : dsts[i]? = some d := by have := hdl 0; simpa using this
          rw [h3] at h4
          exact (eq_of_beq (show (d == dstAt ops i) = true from h4)).symm
        refine ih (i + 1) _ _ (by simp at hi; omega) (fun j => ?_) (fun t ht => ?_) (fun j hj => ?_) (h v (m i) (by
          have := hF i H' H' v m (updm m1 i (m i)) (.refl _) (updm_at _ _ _) (fun q hq => ?_) h1
          · rwa [updm_at] at this
          · have hqi := hedge' i q hq
            rw [updm_ne (by omega)]; exact hm1 q (.inl hqi)))
        · have := hdl (j + 1); rw [show i + 1 + j = i + (j + 1) by omega, this]; rfl
        · have hno : dstAt ops i ≠ some t → σ1 t = σ' t := fun hne => hσ t fun j h3 h4 => by
            rcases Nat.eq_or_lt_of_le h3 with rfl | h5
            · exact hne
            · exact ht j h5 h4
          cases e : d with
          | none => exact hno (by rw [hdi, e]; simp)
          | some d' =>
            show upd σ1 d' v t = _
            by_cases e2 : t = d'
            · subst e2; rw [upd_at]; exact (h2 t (by rw [hdi, e])).symm
            · rw [upd_ne e2]
              exact hno (by rw [hdi, e]; exact fun e3 => e2 (by injection e3 with e3; exact e3.symm))
        · by_cases e : j = i
          · subst e; rw [updm_at]
          · rw [updm_ne e]; exact hm1 j (by omega)
    obtain ⟨m2, h5, h6⟩ := key dsts 0 σ m0 (by omega) (fun j => by simp) (fun t ht => (hfr t fun j hj => ht j (Nat.zero_le _) hj).symm) (fun j hj => (hext j (by omega)).symm) (hfin H' hH)
    have : m2 = m := funext h5
    subst this; exact h6
theorem w_drawn {M : Type} {id : Nat} {ops : Array Oper} {p : Nat} {tl : List Nat} (ds : List (List Dep)) (dsts : List (Option Nat)) (F : Nat → Hp → Value → M → (Nat → M) → Prop) (Lf : (Nat → M) → Items) (m0 : Nat → M) (hm : P.follows .mixedOrders = true) (hck : drawOk ops p = true) (hdk : depsOk ops p ds dsts = true) (htl : List.range' p (ops.size - p) = tl)
    (hF : ∀ i H H' v m m', H.le H' → m' i = m i → (∀ q, edge ops i q = true → m' q = m q) → F i H v (m i) m → F i H' v (m' i) m') (hstep : StepsK P n ops F Lf m0 H σ 0 ds) (hfin : ∀ H', H.le H' → FinK F H' (fun σ' m => Wp P f n (.inRegion ops tl :: k) σ' H' (Lf m) R) 0 dsts σ m0) :
    Wp P f n (.code (.region id ops true) :: k) σ H (Lf m0) R := by
  refine w_drawnX ds dsts F Lf m0 hm hck hdk htl hF (X := fun _ _ _ => True) (fun _ _ _ _ _ _ _ => trivial) ?_ hfin
  have key : ∀ (l : List (List Dep)) (i : Nat), StepsK P n ops F Lf m0 H σ i l → StepsX P n ops F Lf m0 H σ (fun _ _ _ => True) i l := by
    intro l
    induction l with
    | nil => intro i _; trivial
    | cons a l ih => intro i h; exact ⟨fun H' m h1 h2 h3 _ => h.1 H' m h1 h2 h3, ih (i + 1) h.2⟩
  exact key ds 0 hstep
theorem updm_self {M : Type} (m : Nat → M) (i : Nat) : updm m i (m i) = m := by
  funext j; unfold updm; by_cases e : Nat.beq j i = true
  · rw [e]; have := Nat.eq_of_beq_eq_true e; subst this; rfl
  · simp only [Bool.not_eq_true] at e; rw [e]; rfl
theorem s_d {M' : Type} {ops : Array Oper} {i : Nat} {op : Op} {d : Option Nat} {v : Value} {H' : Hp} {L : Items} {Λ : M' → Items} {Φ : Hp → Value → M' → (Nat → M') → Prop} {M : M' → Nat → M'} (it0 : M') (hi : opAt ops i = some (op, d, none)) (h : OpA P n σ H' L op (Is v H' L)) (hF : Φ H' v it0 (M it0)) (hL : L = Λ it0) :
    GopA P n ops i σ H' L fun v H'' L'' => ∃ it, L'' = Λ it ∧ H'.le H'' ∧ Φ H'' v it (M it) := by
  unfold GopA; rw [hi]
  exact fun o ho => (h o ho).mono fun v' H2 L2 ⟨a, b, c⟩ => ⟨it0, c.trans hL, by rw [b]; exact .refl _, by rw [a, b]; exact hF⟩
/-- Where no item is turned. -/
theorem s_k {M' : Type} {ops : Array Oper} {i : Nat} {op : Op} {d : Option Nat} {Ψ : Value → Hp → Items → Prop} {H' : Hp} {L : Items} {Λ : M' → Items} {Φ : Hp → Value → M' → (Nat → M') → Prop} {M : M' → Nat → M'} (it0 : M') (hi : opAt ops i = some (op, d, none)) (h : OpA P n σ H' L op Ψ) (hL : L = Λ it0) (hF : ∀ v H'' L'', Ψ v H'' L'' → L'' = L ∧ H'.le H'' ∧ Φ H'' v it0 (M it0)) :
    GopA P n ops i σ H' L fun v H'' L'' => ∃ it, L'' = Λ it ∧ H'.le H'' ∧ Φ H'' v it (M it) := by
  unfold GopA; rw [hi]
  exact fun o ho => (h o ho).mono fun v H'' L'' x => ⟨it0, (hF v H'' L'' x).1.trans hL, (hF v H'' L'' x).2.1, (hF v H'' L'' x).2.2⟩
theorem s_g {M' : Type} {ops : Array Oper} {i : Nat} {op : Op} {d : Option Nat} {j dj : Nat} {want g : Bool} {v : Value} {H' : Hp} {L : Items} {Λ : M' → Items} {Φ : Hp → Value → M' → (Nat → M') → Prop} {M : M' → Nat → M'} (it0 : M') (hi : opAt ops i = some (op, d, some (j, want))) (hj : (nth ops.toList j).bind (·.dst) = some dj) (hd : Nat.blt dj n = true) (hw : wants (σ dj) want = g)
    (h : g = true → OpA P n σ H' L op (Is v H' L)) (hL : L = Λ it0) (hF : g = true → Φ H' v it0 (M it0)) (hF0 : g = false → Φ H' undef it0 (M it0)) :
    GopA P n ops i σ H' L fun v H'' L'' => ∃ it, L'' = Λ it ∧ H'.le H'' ∧ Φ H'' v it (M it) := by
  unfold GopA; rw [hi]; subst hw
  exact ⟨dj, hj, hd, fun e o ho => (h e o ho).mono fun v' H2 L2 ⟨a, b, c⟩ => ⟨it0, c.trans hL, by rw [b]; exact .refl _, by rw [a, b]; exact hF e⟩, fun e => ⟨it0, hL, .refl _, hF0 e⟩⟩
end
end
end Go.Proofs.YtjhpkkhcgpilfaaDoorK

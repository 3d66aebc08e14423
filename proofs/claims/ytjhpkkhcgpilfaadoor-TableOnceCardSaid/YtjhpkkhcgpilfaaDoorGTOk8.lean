/- Arguments opened: what is read as data reads as a list, a number, a struct; with what is known of each number and length. And a law's end. -/
import Derived.Test.YtjhpkkhcgpilfaaDoorGTOk7
import Derived.OpenShut
import Derived.Deep.Slices
import Derived.ChangeArms
import Derived.SizedLaws
namespace Go.Proofs.YtjhpkkhcgpilfaaDoorK
open Go Go.RowKit Go.ChangeShapes Go.WideShapes Go.Deep
set_option linter.unusedVariables false
set_option linter.unusedSimpArgs false
/-- The heap as it is, known for good. -/
def snap (W : World) : Hp := ⟨fun b => W.heap[b]?, W.os, W.tape, W.output⟩
theorem own_snap (W : World) : Own (snap W) W [] := ⟨rfl, rfl, rfl, fun _ _ h => h, trivial⟩
theorem below_of {W w' : World} {L : Items} (h : Own (snap W) w' L) : Below W.heap.size W w' := by
  have hb : ∀ k, k < W.heap.size → w'.heap[k]? = W.heap[k]? := fun k hk => by
    have h1 : W.heap[k]? = some W.heap[k] := Array.getElem?_eq_getElem hk
    rw [h1]; exact h.good k _ h1
  refine ⟨h.os, h.tape, h.out, ?_, hb⟩
  rcases Nat.eq_zero_or_pos W.heap.size with h0 | h0
  · omega
  · have := hb (W.heap.size - 1) (by omega)
    rw [Array.getElem?_eq_getElem (show W.heap.size - 1 < W.heap.size by omega)] at this
    have := (Array.getElem?_eq_some_iff.1 this).1
    omega
theorem law_end {P : Program} {f : FuncId} {args : Array Value} {W : World} (h : Ct P f args (snap W) [] (fun v H' L' => [] = L' ∧ snap W = H' ∧ v = .bool true)) : Calls P f args W fun e w' => e = .returned (.bool true) ∧ Below W.heap.size W w' :=
  (h.calls (own_snap W)).mono fun e w' ⟨v, H', L', he, ho, a, b, c⟩ => by subst a; subst b; subst c; exact ⟨he, below_of ho⟩
theorem list_of {α : Type} {Q : Nat → α → Prop} : ∀ n, (∀ i, i < n → ∃ y, Q i y) → ∃ ys : List α, ys.length = n ∧ ∀ i y, ys[i]? = some y → Q i y
  | 0, _ => ⟨[], rfl, fun i y h => by simp at h⟩
  | n + 1, h => by
    obtain ⟨ys, hl, hq⟩ := list_of n (fun i hi => h i (by omega))
    obtain ⟨y, hy⟩ := h n (by omega)
    refine ⟨ys ++ [y], by simp [hl], fun i z hz => ?_⟩
    rcases Nat.lt_or_ge i ys.length with hlt | hge
    · rw [List.getElem?_append_left hlt] at hz; exact hq i z hz
    · rw [List.getElem?_append_right hge] at hz
      have h0 : i - ys.length = 0 := by
        rcases Nat.eq_zero_or_pos (i - ys.length) with h0 | h0
        · exact h0
        · rw [List.getElem?_eq_none (by simp; omega)] at hz; cases hz
      rw [h0] at hz
      simp at hz
      subst hz
      have : i = n := by omega
      subst this
      exact hy

theorem weights_mem_all {H : Type} {P : Program} {e : TypeId} : ∀ {ds : List (DataW H)} {j : Nat} {d : DataW H}, ds[j]? = some d → ∀ n ∈ d.weights P e, n ∈ DataW.weightsAll P e ds
  | d0 :: ds, 0, d, hd, n, hn => by
    simp only [List.getElem?_cons_zero, Option.some.injEq] at hd
    subst hd
    simp only [DataW.weightsAll, List.mem_append]
    exact Or.inl hn
  | d0 :: ds, j + 1, d, hd, n, hn => by
    simp only [List.getElem?_cons_succ] at hd
    simp only [DataW.weightsAll, List.mem_append]
    exact Or.inr (weights_mem_all hd n hn)
  | [], _, _, hd, _, _ => by simp at hd

def Fits (l : List Nat) : Prop := ∀ n ∈ l, n ≤ 140737488351232
theorem Fits.of_all {l : List Nat} (h : l.all (· ≤ reachBytes) = true) : Fits l := fun n hn => by
  have := List.all_eq_true.1 h n hn
  exact of_decide_eq_true this

/-- A value of type t that reads as data reads as one of kind d, and what V tells of it. -/
structure Opn {α : Type} (P : Program) (t : TypeId) (d : Kd α) (V : α → Prop) : Prop where
  sz : P.cellsOf t = d.sz
  op : ∀ {H : Type} {enc : TypeId × Value → H} {W : World} {held : Bool} {fuel : Nat} {cs : List Value} {x : DataW H × List MemPlace}, DataW.trod enc P W 0 (fun _ => true) held fuel t cs = some x → Fits (x.1.weights P t) → ∃ y, d.rep (snap W) cs y ∧ V y

section
variable {P : Program} {t e : TypeId}
theorem opn_int {k : IntKind} (ht : P.underlying t = some (.int k)) (hc : P.cellsOf t = 1) : Opn P t (Kd.int k) (fun n => (Lit.int k n).wf = true) :=
  ⟨hc, fun h _ => by obtain ⟨n, rfl, rfl, hw⟩ := DataW.trod_int ht h; exact ⟨n, rfl, hw⟩⟩
theorem opn_bool (ht : P.underlying t = some .bool) (hc : P.cellsOf t = 1) : Opn P t Kd.bool (fun _ => True) :=
  ⟨hc, fun h _ => by obtain ⟨n, rfl, rfl⟩ := DataW.trod_bool ht h; exact ⟨n, rfl, trivial⟩⟩
theorem reps_of {α : Type} {d : Kd α} {H : Hp} : ∀ {ys : List α} {Q : Nat → List Value → Prop}, (∀ i y, ys[i]? = some y → ∃ c, Q i c ∧ d.rep H c y) → ∃ inner, Reps d H inner ys ∧ ∀ i, i < ys.length → ∃ c, Q i c ∧ (inner.drop (i * d.sz)).take d.sz = c
  | [], Q, _ => ⟨[], rfl, fun i hi => by simp at hi⟩
  | y :: ys, Q, h => by
    obtain ⟨c, hq, hk⟩ := h 0 y rfl
    obtain ⟨inner, h1, h2⟩ := reps_of (ys := ys) (Q := fun i => Q (i + 1)) (fun i y hy => h (i + 1) y (by simpa using hy))
    have hl := d.len hk
    refine ⟨c ++ inner, ⟨c, inner, rfl, hk, h1⟩, fun i hi => ?_⟩
    cases i with
    | zero => exact ⟨c, hq, by rw [Nat.zero_mul, List.drop_zero, ← hl, List.take_left]⟩
    | succ i =>
      obtain ⟨c', h3, h4⟩ := h2 i (by simpa using hi)
      refine ⟨c', h3, ?_⟩
      rw [Nat.succ_mul, Nat.add_comm, ← List.drop_drop, show (c ++ inner).drop d.sz = inner from by rw [← hl, List.drop_left]]
      exact h4
theorem opn_slice {α : Type} {d : Kd α} {V : α → Prop} {B : Nat} (ht : P.underlying t = some (.slice e)) (hc : P.cellsOf t = 1) (hB : P.bytesOf e = B) (hz : d.sz = 0 → False) (h : Opn P e d V) :
    Opn P t (Kd.slice d) (fun xs => (xs.length ≤ maxLen ∧ xs.length * B ≤ 140737488351232) ∧ ∀ x ∈ xs, V x) :=
  ⟨hc, @fun H enc W held fuel cs x hx hw => by
    rcases open_slice ht hx with ⟨rfl, rfl⟩ | ⟨a, len, cap, m, n, D, Pl, rfl, _, hl, hm, hmm, rfl, hi⟩
    · exact ⟨[], ⟨_, rfl, ro_nil _ _⟩, ⟨Nat.zero_le _, by simp⟩, fun x hx => by simp at hx⟩
    · simp only [if_true] at hmm
      subst hmm
      have hws : ∀ i, i < len → Fits ((D i).weights P e) := fun i hlt q hq => hw q (by
        simp only [DataW.weights, ht, List.mem_cons, List.mem_append]
        exact Or.inr (Or.inl (weights_mem_all (j := i) (by simp [hlt]) q hq)))
      have hlen : (len + (m - len)) * P.bytesOf e ≤ 140737488351232 := hw _ (by simp [DataW.weights, ht])
      obtain ⟨ys, hyl, hyq⟩ := list_of (Q := fun i y => (∃ cs', W.cells? 0 (a.add (i * P.cellsOf e)) (P.cellsOf e) = some cs' ∧ d.rep (snap W) cs' y) ∧ V y) len (fun i hlt => by
        obtain ⟨cs', h1, h2⟩ := hi i (by omega)
        obtain ⟨y, hk, hv⟩ := h.op h2 (hws i hlt)
        exact ⟨y, ⟨cs', h1, hk⟩, hv⟩)
      obtain ⟨inner, hr, hin⟩ := reps_of (d := d) (H := snap W) (ys := ys) (Q := fun i c => W.cells? 0 (a.add (i * P.cellsOf e)) (P.cellsOf e) = some c) (fun i y hy => (hyq i y hy).1)
      refine ⟨ys, ⟨_, rfl, some a, m, by rw [hyl], by omega, ?_⟩, ⟨by rw [hyl]; exact Nat.le_trans hl hm, ?_⟩, fun x hx => ?_⟩
      · by_cases hin0 : inner = []
        · left
          have := hr.len
          rw [hin0] at this
          rcases Nat.mul_eq_zero.1 (show ys.length * d.sz = 0 from this.symm) with h0 | h0
          · exact List.eq_nil_of_length_eq_zero h0
          · exact (hz h0).elim
        · right
          have hsz : ∀ j c, inner[j]? = some c → W.cell? (a.add j) = some c := fun j c hj => by
            have hj' : j < ys.length * d.sz := by rw [← hr.len]; exact (List.getElem?_eq_some_iff.1 hj).1
            have h0 : 0 < d.sz := by
              rcases Nat.eq_zero_or_pos d.sz with h0 | h0
              · rw [h0] at hj'; simp at hj'
              · exact h0
            have hq : j / d.sz < ys.length := Nat.div_lt_of_lt_mul (by rw [Nat.mul_comm]; exact hj')
            obtain ⟨c', h1, h2⟩ := hin (j / d.sz) hq
            obtain ⟨_, hcl, hat⟩ := World.cells?_some h1
            have hmod : j % d.sz < d.sz := Nat.mod_lt _ h0
            have := hat (j % d.sz) (by rw [h.sz]; exact hmod)
            rw [h.sz, ← h2, List.getElem?_take, if_pos hmod, List.getElem?_drop] at this
            rw [Go.Deep.add_add] at this
            rw [show j / d.sz * d.sz + j % d.sz = j from by rw [Nat.mul_comm]; exact Nat.div_add_mod ..] at this
            rw [this, hj]
          refine ⟨a, inner, rfl, ?_, hr⟩
          obtain ⟨c0, rest, hi0⟩ := List.exists_cons_of_ne_nil hin0
          have h00 := hsz 0 c0 (by rw [hi0]; rfl)
          have ha : a.spot = none ∧ ∃ arr T fz, W.heap[a.block]? = some (.cells arr T fz) := by
            rw [show a.add 0 = a from rfl] at h00
            unfold World.cell? at h00
            split at h00
            · rename_i c1 T fz hh
              refine ⟨?_, c1, T, fz, hh⟩
              cases hs : a.spot with
              | none => rfl
              | some z => rw [hs] at h00; simp at h00
            · cases h00
          obtain ⟨hs, arr, T, fz, hh⟩ := ha
          refine ⟨hs, arr, T, fz, hh, fun j c hj => ?_⟩
          have := hsz j c hj
          rw [addr_add hs] at this
          simpa [World.cell?, hh] using this
      · rw [hyl]
        exact Nat.le_trans (Nat.mul_le_mul (by omega) (by rw [hB]; exact Nat.le_refl _)) hlen
      · obtain ⟨j, hj⟩ := List.getElem?_of_mem hx
        exact (hyq j x hj).2⟩
theorem Opn.map {α β : Type} {d : Kd α} {V : α → Prop} (h : Opn P t d V) (f : β → α) (g : α → β) (hfg : ∀ y, f (g y) = y) : Opn P t (Kd.map f d) (fun z => V (f z)) :=
  ⟨h.sz, fun hx hw => by
    obtain ⟨y, hk, hv⟩ := h.op hx hw
    exact ⟨g y, by show d.rep _ _ (f (g y)); rw [hfg]; exact hk, by show V (f (g y)); rw [hfg]; exact hv⟩⟩
/-- Fields (types and places) one behind the other. -/
def OpnF {α : Type} (P : Program) (fs : List (TypeId × Nat)) (off : Nat) (d : Kd α) (V : α → Prop) : Prop :=
  ∀ {H : Type} {enc : TypeId × Value → H} {W : World} {held : Bool} {n : Nat} {cs : List Value} {xs : List (DataW H × List MemPlace)}, xs.length = fs.length →
    (∀ (i : Nat) (f : TypeId × Nat), fs[i]? = some f → DataW.trod enc P W 0 (fun _ => true) held n f.1 ((cs.drop f.2).take (P.cellsOf f.1)) = xs[i]?) →
    (∀ (i : Nat) (f : TypeId × Nat) (x : DataW H × List MemPlace), fs[i]? = some f → xs[i]? = some x → Fits (x.1.weights P f.1)) → off ≤ cs.length → ∃ y, d.rep (snap W) ((cs.drop off).take d.sz) y ∧ V y
theorem OpnF.one {α : Type} {d : Kd α} {V : α → Prop} (h : Opn P e d V) (off : Nat) : OpnF P [(e, off)] off d V := by
  intro H enc W held n cs xs hl ht hw _
  obtain ⟨x, rfl⟩ : ∃ x, xs = [x] := List.length_eq_one_iff.1 hl
  have h1 := ht 0 (e, off) rfl
  rw [h.sz] at h1
  exact h.op h1 (hw 0 (e, off) x rfl rfl)
theorem OpnF.cons {α β : Type} {d0 : Kd α} {d1 : Kd β} {V0 : α → Prop} {V1 : β → Prop} {fs : List (TypeId × Nat)} (h : Opn P e d0 V0) (off : Nat) (hs : OpnF P fs (off + d0.sz) d1 V1) : OpnF P ((e, off) :: fs) off (Kd.pair d0 d1) (fun x => V0 x.1 ∧ V1 x.2) := by
  intro H enc W held n cs xs hl ht hw ho
  obtain ⟨x, xs', rfl⟩ : ∃ x xs', xs = x :: xs' := by
    cases xs with
    | nil => simp at hl
    | cons x xs' => exact ⟨x, xs', rfl⟩
  have h1 := ht 0 (e, off) rfl
  rw [h.sz] at h1
  obtain ⟨y0, hk0, hv0⟩ := h.op h1 (hw 0 (e, off) x rfl rfl)
  have hlen0 := d0.len hk0
  rw [List.length_take, List.length_drop] at hlen0
  obtain ⟨y1, hk1, hv1⟩ := hs (by simpa using hl) (fun i f hf => by simpa using ht (i + 1) f (by simpa using hf)) (fun i f x' hf hx' => hw (i + 1) f x' (by simpa using hf) (by simpa using hx')) (by omega)
  refine ⟨(y0, y1), ⟨_, _, ?_, hk0, hk1⟩, hv0, hv1⟩
  show (cs.drop off).take (d0.sz + d1.sz) = _
  rw [List.take_add, List.drop_drop]
theorem weights_each {H : Type} : ∀ {ts : List TypeId} {ds : List (DataW H)} {j : Nat} {t : TypeId} {d : DataW H}, ts[j]? = some t → ds[j]? = some d → Fits (DataW.weightsEach P ts ds) → Fits (d.weights P t) := fun ht hd h n hn => h n (DataW.weights_mem_each ht hd n hn)
theorem opn_struct {α : Type} {d : Kd α} {V : α → Prop} {fs : Array Field} (ht : P.underlying t = some (.struct fs)) (hc : P.cellsOf t = d.sz) (h : OpnF P (fs.toList.map fun f => (f.type, f.offset)) 0 d V) : Opn P t d V :=
  ⟨hc, @fun H enc W held fuel cs x hx hw => by
    obtain ⟨xs, n, rfl, rfl, hcl, hxl, hf⟩ := DataW.trod_struct ht hx
    obtain ⟨y, hk, hv⟩ := h (enc := enc) (held := held) (W := W) (n := n) (cs := cs) (xs := xs) (by simpa using hxl) (fun i f hf' => by
        rw [List.getElem?_map] at hf'
        obtain ⟨f', hf1, rfl⟩ := Option.map_eq_some_iff.1 hf'
        exact hf i f' (by simpa using hf1)) (fun i f x' hf' hx' => by
        rw [List.getElem?_map] at hf'
        obtain ⟨f', hf1, rfl⟩ := Option.map_eq_some_iff.1 hf'
        refine weights_each (P := P) (ts := fs.toList.map (·.type)) (ds := xs.map (·.1)) (j := i) (by rw [List.getElem?_map, hf1]; rfl) (by rw [List.getElem?_map, hx']; rfl) (fun q hq => hw q ?_)
        simp only [DataW.weights, ht]
        exact hq) (Nat.zero_le _)
    rw [List.drop_zero, List.take_of_length_le (by omega)] at hk
    exact ⟨y, hk, hv⟩⟩
end
section
variable {P : Program} {f : FB} {n : Nat} {k : List Item} {σ : Nat → Value} {H : Hp} {L : Items} {R : Value → Hp → Items → Prop}
theorem w_pull {it : Item'} {L' : Items} (u : Upd L it none L') (hk : Wp P f n k σ H (it :: L') R) : Wp P f n k σ H L R := fun w hw => hk w (hw.pull u)
theorem w_put {it : Item'} {L' : Items} (u : Upd L none it L') (hk : Wp P f n k σ H L' R) : Wp P f n k σ H (it :: L) R := fun w hw => hk w (hw.put' u)
theorem ct_ptr {f : FuncId} {args : Array Value} {L0 : Items} {O : Items → Hp → Value → Prop} (h : Ct P f args H L0 (fun v H' L' => ∃ p its_, L' = p ++ (its_ ++ L) ∧ H.le H' ∧ O its_ H' v)) : Ct P f args H L0 (fun v H' L' => ∃ its_, L' = its_ ++ L ∧ H.le H' ∧ O its_ H' v) := by
  intro w hw cs
  obtain ⟨v, w', H', L', fr', a, b, c, d, p, its, rfl, e1, e2⟩ := h w hw cs
  exact ⟨v, w', H', its ++ L, fr', a, b, c, d.unapp, its, rfl, e1, e2⟩
end
end Go.Proofs.YtjhpkkhcgpilfaaDoorK

/- Arguments of any made-up type, opened: what is read as data reads as a list, a number, a struct of the print's kinds; with what is known of each number and length. -/
import Derived.Test.YtlokgnjlnefbbaaDoorWWords
import Derived.OpenShut
import Derived.Deep.Slices
import Derived.ChangeArms
import Derived.SizedLaws
namespace Go.Proofs.YtlokgnjlnefbbaaDoor
open Go.RowKit Go.Proofs.YtlokgnjlnefbbaaDoorW.PrintWords Go.ChangeShapes Go.WideShapes Go.Deep

theorem list_of {α : Type} {Q : Nat → α → Prop} : ∀ n, (∀ i, i < n → ∃ y, Q i y) → ∃ ys : List α, ys.length = n ∧ ∀ i y, ys[i]? = some y → Q i y
  | 0, _ => ⟨[], rfl, fun i y h => by simp at h⟩
  | n + 1, h => by
    obtain ⟨ys, hl, hq⟩ := list_of n (fun i hi => h i (by omega))
    obtain ⟨y, hy⟩ := h n (by omega)
    refine ⟨ys ++ [y], by simp [hl], fun i z hz => ?_⟩
    rcases Nat.lt_or_ge i ys.length with hlt | hge
    · rw [List.getElem?_append_left hlt] at hz; exact hq i z hz
    · rw [List.getElem?_append_right hge] at hz
      have h0 : i - ys.length = 0 := by
        rcases Nat.eq_zero_or_pos (i - ys.length) with h0 | h0
        · exact h0
        · rw [List.getElem?_eq_none (by simp; omega)] at hz; cases hz
      rw [h0] at hz
      simp at hz
      subst hz
      have : i = n := by omega
      subst this
      exact hy

theorem weights_mem_all {H : Type} {P : Program} {e : TypeId} : ∀ {ds : List (DataW H)} {j : Nat} {d : DataW H}, ds[j]? = some d → ∀ n ∈ d.weights P e, n ∈ DataW.weightsAll P e ds
  | d0 :: ds, 0, d, hd, n, hn => by
    simp only [List.getElem?_cons_zero, Option.some.injEq] at hd
    subst hd
    simp only [DataW.weightsAll, List.mem_append]
    exact Or.inl hn
  | d0 :: ds, j + 1, d, hd, n, hn => by
    simp only [List.getElem?_cons_succ] at hd
    simp only [DataW.weightsAll, List.mem_append]
    exact Or.inr (weights_mem_all hd n hn)
  | [], _, _, hd, _, _ => by simp at hd

def Fits (l : List Nat) : Prop := ∀ n ∈ l, n ≤ 140737488351232
theorem Fits.of_all {l : List Nat} (h : l.all (· ≤ reachBytes) = true) : Fits l := fun n hn => by
  have := List.all_eq_true.1 h n hn
  exact of_decide_eq_true this

/-- A value of type t that reads as data reads as one of kind d, and what V tells of it. -/
structure Opn {α : Type} (P : Program) (t : TypeId) (d : Kd α) (V : α → Prop) : Prop where
  sz : P.cellsOf t = d.sz
  op : ∀ {H : Type} {enc : TypeId × Value → H} {W : World} {held : Bool} {fuel : Nat} {cs : List Value} {x : DataW H × List MemPlace}, DataW.trod enc P W 0 (fun _ => true) held fuel t cs = some x → Fits (x.1.weights P t) → ∃ y, d.K W y cs ∧ V y

section
variable {P : Program} {t e : TypeId}
theorem opn_int {k : IntKind} (ht : P.underlying t = some (.int k)) (hc : P.cellsOf t = 1) : Opn P t (Kd.int k) (fun n => (Lit.int k n).wf = true) :=
  ⟨hc, fun h _ => by obtain ⟨n, rfl, rfl, hw⟩ := DataW.trod_int ht h; exact ⟨n, rfl, hw⟩⟩
theorem opn_bool (ht : P.underlying t = some .bool) (hc : P.cellsOf t = 1) : Opn P t Kd.bool (fun _ => True) :=
  ⟨hc, fun h _ => by obtain ⟨n, rfl, rfl⟩ := DataW.trod_bool ht h; exact ⟨n, rfl, trivial⟩⟩
theorem opn_string (ht : P.underlying t = some .string) (hc : P.cellsOf t = 1) : Opn P t Kd.string (fun s => s.size ≤ 140737488351232) :=
  ⟨hc, fun h hw => by
    obtain ⟨s, rfl, rfl, _⟩ := DataW.trod_string ht h
    have := hw s.data.toList.length (by simp [DataW.weights])
    exact ⟨s, rfl, by simpa using this⟩⟩
theorem opn_slice {α : Type} {d : Kd α} {V : α → Prop} {B : Nat} (ht : P.underlying t = some (.slice e)) (hc : P.cellsOf t = 1) (hB : P.bytesOf e = B) (h : Opn P e d V) :
    Opn P t (Kd.slice e d) (fun xs => (xs.length ≤ maxLen ∧ xs.length * B ≤ 140737488351232) ∧ ∀ x ∈ xs, V x) :=
  ⟨hc, @fun H enc W held fuel cs x hx hw => by
    rcases open_slice ht hx with ⟨rfl, rfl⟩ | ⟨a, len, cap, m, n, D, Pl, rfl, _, hl, hm, hmm, rfl, hi⟩
    · exact ⟨[], ⟨none, 0, rfl, Nat.le_refl _, ⟨rfl, by simp, fun h => by simp at h⟩⟩, ⟨Nat.zero_le _, by simp⟩, fun x hx => by simp at hx⟩
    · simp only [if_true] at hmm
      subst hmm
      have hws : ∀ i, i < len → Fits ((D i).weights P e) := fun i hlt q hq => hw q (by
        simp only [DataW.weights, ht, List.mem_cons, List.mem_append]
        exact Or.inr (Or.inl (weights_mem_all (j := i) (by simp [hlt]) q hq)))
      have hlen : (len + (m - len)) * P.bytesOf e ≤ 140737488351232 := hw _ (by simp [DataW.weights, ht])
      obtain ⟨ys, hyl, hyq⟩ := list_of (Q := fun i y => (∃ cs', W.cells? 0 (a.add (i * P.cellsOf e)) (P.cellsOf e) = some cs' ∧ d.K W y cs') ∧ V y) len (fun i hlt => by
        obtain ⟨cs', h1, h2⟩ := hi i (by omega)
        obtain ⟨y, hk, hv⟩ := h.op h2 (hws i hlt)
        exact ⟨y, ⟨cs', h1, hk⟩, hv⟩)
      refine ⟨ys, ⟨some a, m, by rw [hyl], by omega, ⟨rfl, by rw [hyl]; unfold maxLen at hm; omega, fun _ => ⟨a, rfl, fun j p hj => ?_⟩⟩⟩, ⟨by rw [hyl]; exact Nat.le_trans hl hm, ?_⟩, fun x hx => ?_⟩
      · obtain ⟨⟨cs', h1, hk⟩, _⟩ := hyq j p hj
        refine ⟨cs', d.K_len hk, hk, fun i u hu => ?_⟩
        obtain ⟨_, hcl, hat⟩ := World.cells?_some h1
        have hil : i < d.sz := by rw [← d.K_len hk]; exact (List.getElem?_eq_some_iff.1 hu).1
        rw [← Go.Deep.add_add, ← h.sz, hat i (by rw [h.sz]; exact hil), hu]
      · rw [hyl]
        exact Nat.le_trans (Nat.mul_le_mul (by omega) (by rw [hB]; exact Nat.le_refl _)) hlen
      · obtain ⟨j, hj⟩ := List.getElem?_of_mem hx
        exact (hyq j x hj).2⟩
theorem Opn.iso {α β : Type} {d : Kd α} {V : α → Prop} (h : Opn P t d V) (f : β → α) (g : α → β) (hfg : ∀ y, f (g y) = y) : Opn P t (Kd.iso d f) (fun z => V (f z)) :=
  ⟨h.sz, fun hx hw => by
    obtain ⟨y, hk, hv⟩ := h.op hx hw
    exact ⟨g y, by show d.K _ (f (g y)) _; rw [hfg]; exact hk, by show V (f (g y)); rw [hfg]; exact hv⟩⟩
/-- Fields (types and places) one behind the other. -/
def OpnF {α : Type} (P : Program) (fs : List (TypeId × Nat)) (off : Nat) (d : Kd α) (V : α → Prop) : Prop :=
  ∀ {H : Type} {enc : TypeId × Value → H} {W : World} {held : Bool} {n : Nat} {cs : List Value} {xs : List (DataW H × List MemPlace)}, xs.length = fs.length →
    (∀ (i : Nat) (f : TypeId × Nat), fs[i]? = some f → DataW.trod enc P W 0 (fun _ => true) held n f.1 ((cs.drop f.2).take (P.cellsOf f.1)) = xs[i]?) →
    (∀ (i : Nat) (f : TypeId × Nat) (x : DataW H × List MemPlace), fs[i]? = some f → xs[i]? = some x → Fits (x.1.weights P f.1)) → off ≤ cs.length → ∃ y, d.K W y ((cs.drop off).take d.sz) ∧ V y
theorem OpnF.one {α : Type} {d : Kd α} {V : α → Prop} (h : Opn P e d V) (off : Nat) : OpnF P [(e, off)] off d V := by
  intro H enc W held n cs xs hl ht hw _
  obtain ⟨x, rfl⟩ : ∃ x, xs = [x] := List.length_eq_one_iff.1 hl
  have h1 := ht 0 (e, off) rfl
  rw [h.sz] at h1
  exact h.op h1 (hw 0 (e, off) x rfl rfl)
theorem OpnF.cons {α β : Type} {d0 : Kd α} {d1 : Kd β} {V0 : α → Prop} {V1 : β → Prop} {fs : List (TypeId × Nat)} (h : Opn P e d0 V0) (off : Nat) (hs : OpnF P fs (off + d0.sz) d1 V1) : OpnF P ((e, off) :: fs) off (Kd.pair d0 d1) (fun x => V0 x.1 ∧ V1 x.2) := by
  intro H enc W held n cs xs hl ht hw ho
  obtain ⟨x, xs', rfl⟩ : ∃ x xs', xs = x :: xs' := by
    cases xs with
    | nil => simp at hl
    | cons x xs' => exact ⟨x, xs', rfl⟩
  have h1 := ht 0 (e, off) rfl
  rw [h.sz] at h1
  obtain ⟨y0, hk0, hv0⟩ := h.op h1 (hw 0 (e, off) x rfl rfl)
  have hlen0 := d0.K_len hk0
  rw [List.length_take, List.length_drop] at hlen0
  obtain ⟨y1, hk1, hv1⟩ := hs (by simpa using hl) (fun i f hf => by simpa using ht (i + 1) f (by simpa using hf)) (fun i f x' hf hx' => hw (i + 1) f x' (by simpa using hf) (by simpa using hx')) (by omega)
  refine ⟨(y0, y1), ⟨_, _, ?_, hk0, hk1⟩, hv0, hv1⟩
  show (cs.drop off).take (d0.sz + d1.sz) = _
  rw [List.take_add, List.drop_drop]
theorem weights_each {H : Type} : ∀ {ts : List TypeId} {ds : List (DataW H)} {j : Nat} {t : TypeId} {d : DataW H}, ts[j]? = some t → ds[j]? = some d → Fits (DataW.weightsEach P ts ds) → Fits (d.weights P t) := fun ht hd h n hn => h n (DataW.weights_mem_each ht hd n hn)
theorem opn_struct {α : Type} {d : Kd α} {V : α → Prop} {fs : Array Field} (ht : P.underlying t = some (.struct fs)) (hc : P.cellsOf t = d.sz) (h : OpnF P (fs.toList.map fun f => (f.type, f.offset)) 0 d V) : Opn P t d V :=
  ⟨hc, @fun H enc W held fuel cs x hx hw => by
    obtain ⟨xs, n, rfl, rfl, hcl, hxl, hf⟩ := DataW.trod_struct ht hx
    obtain ⟨y, hk, hv⟩ := h (enc := enc) (held := held) (W := W) (n := n) (cs := cs) (xs := xs) (by simpa using hxl) (fun i f hf' => by
        rw [List.getElem?_map] at hf'
        obtain ⟨f', hf1, rfl⟩ := Option.map_eq_some_iff.1 hf'
        exact hf i f' (by simpa using hf1)) (fun i f x' hf' hx' => by
        rw [List.getElem?_map] at hf'
        obtain ⟨f', hf1, rfl⟩ := Option.map_eq_some_iff.1 hf'
        refine weights_each (P := P) (ts := fs.toList.map (·.type)) (ds := xs.map (·.1)) (j := i) (by rw [List.getElem?_map, hf1]; rfl) (by rw [List.getElem?_map, hx']; rfl) (fun q hq => hw q ?_)
        simp only [DataW.weights, ht]
        exact hq) (Nat.zero_le _)
    rw [List.drop_zero, List.take_of_length_le (by omega)] at hk
    exact ⟨y, hk, hv⟩⟩
theorem opn_array {α : Type} {d : Kd α} {V : α → Prop} {m : Nat} (ht : P.underlying t = some (.array m e)) (hc : P.cellsOf t = d.sz) (h : OpnF P ((List.range m).map fun i => (e, i * P.cellsOf e)) 0 d V) : Opn P t d V :=
  ⟨hc, @fun H enc W held fuel cs x hx hw => by
    obtain ⟨xs, n, rfl, rfl, hcl, hxl, hf⟩ := DataW.trod_array ht hx
    obtain ⟨y, hk, hv⟩ := h (enc := enc) (held := held) (W := W) (n := n) (cs := cs) (xs := xs) (by simpa using hxl) (fun i f hf' => by
        rw [List.getElem?_map] at hf'
        obtain ⟨f', hf1, rfl⟩ := Option.map_eq_some_iff.1 hf'
        have hi : i < m := by have := (List.getElem?_eq_some_iff.1 hf1).1; simpa using this
        have : f' = i := by rw [List.getElem?_range hi] at hf1; exact (Option.some.inj hf1).symm
        subst this
        exact hf f' hi) (fun i f x' hf' hx' => by
        rw [List.getElem?_map] at hf'
        obtain ⟨f', hf1, rfl⟩ := Option.map_eq_some_iff.1 hf'
        refine fun q hq => hw q ?_
        simp only [DataW.weights, ht]
        exact weights_mem_all (j := i) (by rw [List.getElem?_map, hx']; rfl) q hq) (Nat.zero_le _)
    rw [List.drop_zero, List.take_of_length_le (by omega)] at hk
    exact ⟨y, hk, hv⟩⟩
end
end Go.Proofs.YtlokgnjlnefbbaaDoor

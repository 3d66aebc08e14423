/- Heads of records (FSPEC), in plain words: the items of a byte, the bytes of ascending items, and what the program's loops come to. -/
import Derived.Test.YtlokgnjlnefbbaaDoorGCBp
namespace Go.Proofs.YtlokgnjlnefbbaaDoor.Pure
open Go.RowKit Go.Proofs.YtlokgnjlnefbbaaDoorK Go.Proofs.YtlokgnjlnefbbaaDoor.GCB
set_option linter.unusedVariables false
set_option linter.unusedSimpArgs false
theorem ev_some {α : Type} {g : Nat → Option α} {r : α} (h : ∀ k, g k = some r) : Ev g r := ⟨0, fun k _ => h k⟩
theorem w64_id {x : Int} (h : -9223372036854775808 ≤ x ∧ x ≤ 9223372036854775807) : w64 x = x := by
  simp only [w64, IntKind.wrap, IntKind.bits, IntKind.signed]
  simp
  omega
/-! ### a byte's items -/
def its (c n : Int) : Nat → List Int
  | 0 => []
  | j + 1 => if (c / 2 ^ (j + 1)) % 2 = 0 then its c n j else (7 * n + (6 - j) + 1) :: its c n j
theorem its_len (c n : Int) : ∀ j, (its c n j).length ≤ j
  | 0 => Nat.le_refl _
  | j + 1 => by
    have := its_len c n j
    unfold its
    split
    · omega
    · simp; omega
theorem bit_and : ∀ c : Fin 256, ∀ j : Fin 7, (iand .u8 (c.val : Int) (128 / 2 ^ shn .u8 (6 - (j.val : Int))) = 0) ↔ (((c.val : Int) / 2 ^ (j.val + 1)) % 2 = 0) := by decide +kernel
theorem bit_and' {c : Int} (h0 : 0 ≤ c) (h1 : c ≤ 255) {j : Nat} (hj : j < 7) : (iand .u8 c (128 / 2 ^ shn .u8 (6 - (j : Int))) = 0) ↔ ((c / 2 ^ (j + 1)) % 2 = 0) := by
  have h := bit_and ⟨c.toNat, by omega⟩ ⟨j, hj⟩
  have e : ((c.toNat : Nat) : Int) = c := Int.toNat_of_nonneg h0
  simpa only [e] using h
theorem and_one : ∀ c : Fin 256, (iand .u8 (c.val : Int) 1 = 0) ↔ ((c.val : Int) % 2 = 0) := by decide +kernel
theorem and_one' {c : Int} (h0 : 0 ≤ c) (h1 : c ≤ 255) : (iand .u8 c 1 = 0) ↔ (c % 2 = 0) := by
  have h := and_one ⟨c.toNat, by omega⟩
  have e : ((c.toNat : Nat) : Int) = c := Int.toNat_of_nonneg h0
  simpa only [e] using h
theorem items_ev {c n : Int} (h0 : 0 ≤ c) (h1 : c ≤ 255) (hn : 0 ≤ n ∧ n ≤ 100) : ∀ (j : Nat) (acc : List Int), j ≤ 7 → acc.length + j ≤ 1000 →
    Ev (fun k => (fspec_items.hs k).l0 c n acc (7 - (j : Int))) (acc ++ its c n j)
  | 0, acc, _, _ => by
    refine Ev.step (fun k => rfl) ?_
    refine ev_some fun k => ?_
    simp only [fspec_items.hs, fspec_items.b0]
    rw [if_neg (by omega)]
    simp [its]
  | j + 1, acc, hj, ha => by
    refine Ev.step (fun k => rfl) ?_
    have e1 : (7 - ((j + 1 : Nat) : Int)) = 6 - (j : Int) := by omega
    have e2 : w64 (6 - (j : Int) + 1) = 7 - (j : Int) := by rw [w64_id (by omega)]; omega
    have e3 : w64 (w64 (w64 (n * 7) + (6 - (j : Int))) + 1) = 7 * n + (6 - j) + 1 := by
      rw [w64_id (x := n * 7) (by omega), w64_id (x := n * 7 + (6 - (j : Int))) (by omega), w64_id (x := n * 7 + (6 - (j : Int)) + 1) (by omega)]; omega
    rw [e1]
    simp only [fspec_items.hs, fspec_items.b0, e2, e3, show (6 - (j : Int)) < 7 by omega, show 0 ≤ (6 - (j : Int)) by omega, if_true, bit_and' h0 h1 (show j < 7 by omega)]
    by_cases hb : (c / 2 ^ (j + 1)) % 2 = 0
    · simp only [hb, if_true]
      have := items_ev h0 h1 hn j acc (by omega) (by omega)
      simpa [its, hb] using this
    · simp only [hb, if_false, show acc.length + 1 ≤ 17592186044320 by omega, if_true]
      have := items_ev h0 h1 hn j (acc ++ [7 * n + (6 - j) + 1]) (by omega) (by simp; omega)
      simpa [its, hb] using this
theorem items_f {c n : Int} (h0 : 0 ≤ c) (h1 : c ≤ 255) (hn : 0 ≤ n ∧ n ≤ 100) : Ev (fun k => fspec_items.f k c n) (its c n 7) := by
  have := items_ev h0 h1 hn 7 [] (by omega) (by simp)
  exact this
/-! ### heads read -/
def dec (l : List Int) (most : Int) : Nat → Int → List Int → (fspec_Head × Option Int)
  | 0, _, _ => (⟨[], 0⟩, some 2)
  | f + 1, i, acc => if i = most then (⟨[], 0⟩, some 2) else if i = (l.length : Int) then (⟨[], 0⟩, some 4) else
    if rd l i % 2 = 0 then (if its (rd l i) i 7 = [] then (⟨[], 0⟩, some 3) else (⟨acc ++ its (rd l i) i 7, i + 1⟩, none)) else dec l most f (i + 1) (acc ++ its (rd l i) i 7)
def U8 (l : List Int) : Prop := ∀ x ∈ l, 0 ≤ x ∧ x ≤ 255
theorem U8.rd {l : List Int} (h : U8 l) (i : Int) : 0 ≤ rd l i ∧ rd l i ≤ 255 := by
  unfold Go.Proofs.YtlokgnjlnefbbaaDoorK.rd
  rw [List.getD_eq_getElem?_getD]
  cases e : l[i.toNat]? with
  | none => simp
  | some x => exact h x (List.mem_of_getElem? e)
theorem dec_ev {l : List Int} (hl : U8 l) {most : Int} (hm : 1 ≤ most ∧ most ≤ 8) : ∀ (f : Nat) (i : Int) (acc : List Int), (most - i : Int) + 1 ≤ f → 0 ≤ i → i ≤ most → i ≤ l.length → (acc.length : Int) ≤ 7 * i →
    Ev (fun k => (fspec_Decode.hs k).l0 l most [] 0 none acc 0 i) (dec l most f i acc)
  | 0, i, acc, hf, _, _, _, _ => by omega
  | f + 1, i, acc, hf, h0, him, hil, ha => by
    refine Ev.step (fun k => rfl) ?_
    simp only [fspec_Decode.hs, fspec_Decode.b0]
    by_cases h1 : i = most
    · subst h1; refine ev_some fun k => ?_; simp [dec]
    · by_cases h2 : i = (l.length : Int)
      · refine ev_some fun k => ?_; rw [if_neg h1, if_pos h2]; simp only [dec, h2, if_true]; rw [if_neg (by omega)]
      · have hlt : i < (l.length : Int) := by omega
        have hc := hl.rd i
        simp only [h1, h2, if_false, h0, hlt, and_self, if_true, and_one' hc.1 hc.2, show w64 (i + 1) = i + 1 from w64_id (by omega)]
        have hlen := its_len (rd l i) i 7
        refine Ev.bind (items_f hc.1 hc.2 (by omega)) ?_
        have hle : acc.length + (its (rd l i) i 7).length ≤ 17592186044320 := by omega
        simp only [hle, if_true]
        by_cases h3 : rd l i % 2 = 0
        · simp only [h3, if_true, dec, h1, h2, if_false]
          refine ev_some fun k => ?_
          by_cases h4 : its (rd l i) i 7 = []
          · simp [h4]
          · rw [if_neg (by intro h; exact h4 (List.eq_nil_of_length_eq_zero (by omega))), if_neg h4]
        · simp only [h3, if_false, dec, h1, h2]
          have := dec_ev hl hm f (i + 1) (acc ++ its (rd l i) i 7) (by omega) (by omega) (by omega) (by omega) (by rw [List.length_append]; omega)
          exact this
def decode (l : List Int) (most : Int) : (fspec_Head × Option Int) := if 1 ≤ most ∧ most ≤ 8 then dec l most 10 0 [] else (⟨[], 0⟩, some 1)
theorem decode_ev {l : List Int} (hl : U8 l) (most : Int) : Ev (fun k => fspec_Decode.f k l most) (decode l most) := by
  simp only [fspec_Decode.f, decode]
  by_cases h1 : 1 ≤ most ∧ most ≤ 8
  · have : (decide (most < 1) || decide (8 < most)) = false := by simp only [Bool.or_eq_false_iff, decide_eq_false_iff_not]; omega
    simp only [h1, and_self, if_true, this, Bool.false_eq_true, if_false]
    exact dec_ev hl (by omega) 10 0 [] (by omega) (by omega) (by omega) (by omega) (by simp)
  · have : (decide (most < 1) || decide (8 < most)) = true := by simp only [Bool.or_eq_true, decide_eq_true_eq]; omega
    simp only [h1, if_false, this, if_true]; exact Ev.now
/-! ### bytes of ascending items -/
end Go.Proofs.YtlokgnjlnefbbaaDoor.Pure

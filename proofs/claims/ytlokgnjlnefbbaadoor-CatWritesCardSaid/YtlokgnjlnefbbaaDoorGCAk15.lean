/- Maps of the call's own: rows of keys and values, in the order in which they came. -/
import Derived.Test.YtlokgnjlnefbbaaDoorGCAk14
import Derived.MapKept
namespace Go.Proofs.YtlokgnjlnefbbaaDoorK
open Go Go.RowKit
set_option linter.unusedVariables false
set_option linter.unusedSimpArgs false
structure Mk (α β : Type) [DecidableEq α] where
  key : α → Value
  val : β → Value
  kk : TypeDesc
  same : ∀ a b, Instr.sameNow kk (key a) (key b) = some (decide (a = b))
  bits : ∀ a, Instr.sameBits 10000 (key a) (key a) = true
  chk : ∀ (P : Program) (em : Bool) (kt : TypeId) (a : α) (w : World), P.underlying kt = some kk → (Instr.checkKey em 10000 kt (key a)).run P w = .ok () w
section
variable {α β : Type} [DecidableEq α]
def Mp (mk : Mk α β) (H : Hp) (T : TypeId) (it : Item') (v : Value) (m : List (α × β)) : Prop := ∃ b es clock, it = some (b, .map es clock) ∧ v = .map (some b) ∧ es.toList.map (fun e => (e.key, e.val)) = m.map fun p => (mk.key p.1, mk.val p.2)
theorem Mp.mono {mk : Mk α β} {H H' : Hp} {T it v m} (h : Mp mk H T it v m) (_ : H.le H') : Mp mk H' T it v m := h
variable {P : Program} {f : FuncId} {n : Nat} {k : List Item} {σ : Nat → Value} {H : Hp} {L : Items} {R : Value → Hp → Items → Prop}
end
section
variable {P : Program} {f : FuncId} {n : Nat} {k : List Item} {σ : Nat → Value} {H : Hp} {L : Items} {R : Value → Hp → Items → Prop}
theorem d_fieldAddr2 {s : TypeId} {x : Operand} {i sz m o : Nat} {fs : Array Field} {fd : Field} {a : Addr} (hs : P.underlying s = some (.struct fs)) (hf : fs[i]? = some fd) (hsz : (P.info? fd.type).map (·.size) = some sz) (h0 : Nat.beq sz 0 = false) (hx : ev n σ x = .pointer (some (a.add m))) (ho : m + fd.offset = o) : OpA P n σ H L (.fieldAddr s x i) (Is (.pointer (some (a.add o))) H L) := by
  have := d_fieldAddr (H := H) (L := L) hs hf hsz h0 hx
  rwa [add_add, ho] at this
theorem idx_var {K : IntKind} {xs : List Int} {i : Int} (h : 0 ≤ i ∧ i < (xs.length : Int)) : ((xs.map (Value.int K)).drop (i.toNat * 1)).take 1 = [.int K (rd xs i)] := by
  obtain ⟨j, rfl⟩ : ∃ j : Nat, (j : Int) = i := ⟨i.toNat, by omega⟩
  have hj : j < xs.length := by omega
  rw [Int.toNat_natCast, Nat.mul_one, ← List.map_drop, List.drop_eq_getElem_cons hj, List.map_cons]
  unfold rd
  rw [Int.toNat_natCast, List.getD_eq_getElem?_getD, List.getElem?_eq_getElem hj]; rfl
end
end Go.Proofs.YtlokgnjlnefbbaaDoorK

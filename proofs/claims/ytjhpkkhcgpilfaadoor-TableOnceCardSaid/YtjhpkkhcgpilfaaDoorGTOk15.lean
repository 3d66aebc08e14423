/- Maps of the call's own: rows of keys and values, in the order in which they came. -/
import Derived.Test.YtjhpkkhcgpilfaaDoorGTOk14
import Derived.MapKept
namespace Go.Proofs.YtjhpkkhcgpilfaaDoorK
open Go Go.RowKit
set_option linter.unusedVariables false
set_option linter.unusedSimpArgs false
structure Mk (α β : Type) [DecidableEq α] where
  key : α → Value
  val : β → Value
  kk : TypeDesc
  same : ∀ a b, Instr.sameNow kk (key a) (key b) = some (decide (a = b))
  bits : ∀ a, Instr.sameBits 10000 (key a) (key a) = true
  chk : ∀ (P : Program) (em : Bool) (kt : TypeId) (a : α) (w : World), P.underlying kt = some kk → (Instr.checkKey em 10000 kt (key a)).run P w = .ok () w
section
variable {α β : Type} [DecidableEq α]
def Mp (mk : Mk α β) (H : Hp) (T : TypeId) (it : Item') (v : Value) (m : List (α × β)) : Prop := ∃ b es clock, it = some (b, .map es clock) ∧ v = .map (some b) ∧ es.toList.map (fun e => (e.key, e.val)) = m.map fun p => (mk.key p.1, mk.val p.2)
theorem Mp.mono {mk : Mk α β} {H H' : Hp} {T it v m} (h : Mp mk H T it v m) (_ : H.le H') : Mp mk H' T it v m := h
variable {P : Program} {f : FB} {n : Nat} {k : List Item} {σ : Nat → Value} {H : Hp} {L : Items} {R : Value → Hp → Items → Prop}
end
/-! ### a field of a field of an element; an element of a constant array -/
section
variable {P : Program} {f : FB} {n : Nat} {k : List Item} {σ : Nat → Value} {H : Hp} {L : Items} {R : Value → Hp → Items → Prop}
theorem d_fieldAddr2 {s : TypeId} {x : Operand} {i sz m o : Nat} {fs : Array Field} {fd : Field} {a : Addr} (hs : P.underlying s = some (.struct fs)) (hf : fs[i]? = some fd) (hsz : (P.info? fd.type).map (·.size) = some sz) (h0 : Nat.beq sz 0 = false) (hx : ev n σ x = .pointer (some (a.add m))) (ho : m + fd.offset = o) : OpA P n σ H L (.fieldAddr s x i) (Is (.pointer (some (a.add o))) H L) := by
  have := d_fieldAddr (H := H) (L := L) hs hf hsz h0 hx
  rwa [add_add, ho] at this
end
/-! ### an own slice among a call's results -/
section
variable {P : Program} {f : FuncId} {H : Hp} {L : Items}
theorem ct_ownQ {f : FuncId} {args : Array Value} {Q : Hp → Item' → Value → Prop} (h : Ct P f args H L (fun v H' L' => (∃ p it, L' = p ++ it :: L ∧ Q H' it v) ∧ H.le H')) : Ct P f args H L (fun v H' L' => ∃ it, L' = it :: L ∧ H.le H' ∧ Q H' it v) := by
  intro w hw cs
  obtain ⟨v, w', H', L', fr', a, b, c, d, ⟨p, it, rfl, hs⟩, e1⟩ := h w hw cs
  exact ⟨v, w', H', it :: L, fr', a, b, c, d.unapp, it, rfl, e1, hs⟩
end
/-! ### what makes several rows, under a guard, in a drawn region -/
section
variable {P : Program} {n : Nat} {σ : Nat → Value}
end
/-! ### functions with what they have caught; own results in a drawn region -/
section
variable {P : Program} {f : FB} {n : Nat} {k : List Item} {σ : Nat → Value} {H : Hp} {L : Items} {R : Value → Hp → Items → Prop}
end
end Go.Proofs.YtjhpkkhcgpilfaaDoorK

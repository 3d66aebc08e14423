/- Pointers that are lent, nil pointers, parts of own slices that stay own, maps. -/
import Derived.Test.YtjhpkkhcgpilfaaDoorGTOk10
namespace Go.Proofs.YtjhpkkhcgpilfaaDoorK
open Go Go.RowKit
set_option linter.unusedVariables false
set_option linter.unusedSimpArgs false
theorem Lies.mono {H H' : Hp} {L a cs} (h : Lies H L a cs) (hle : H.le H') : Lies H' L a cs := fun w hw => h w (hw.lower hle)
theorem Lies.th {H : Hp} {it : Item'} {L a cs} (h : Lies H L a cs) : Lies H (it :: L) a cs := fun w hw => h w hw.tail
theorem lies_own {H : Hp} {L : Items} {b : Nat} {cs : List Value} {T : TypeId} {fz} (hm : Has L (some (b, .cells ⟨cs⟩ T fz))) : Lies H L ⟨b, 0, none⟩ cs := by
  have := lies_box (H := H) hm 0 cs.length
  rwa [List.drop_zero, List.take_length] at this
section
variable {P : Program} {f : FB} {n : Nat} {k : List Item} {σ : Nat → Value} {H : Hp} {L : Items} {R : Value → Hp → Items → Prop}
theorem d_loadl {t : TypeId} {x : Operand} {agg : Bool} {sz b off : Nat} {cs cs' : List Value} {v : Value} (ht : TyA P t agg sz) (hx : ev n σ x = .pointer (some ⟨b, off, none⟩)) (hc : Lies H L ⟨b, 0, none⟩ cs) (hcs : (cs.drop off).take sz = cs') (hl : Nat.beq cs'.length sz = true) (h1 : (agg || Nat.beq sz 1) = true) (hv : vof agg cs' = v) :
    OpA P n σ H L (.load t x) (Is v H L) := by
  refine d_load ht hx (Nat.eq_of_beq_eq_true hl) (fun e => by rw [e] at h1; exact Nat.eq_of_beq_eq_true h1) ?_ hv
  subst hcs
  have := hc.part off sz
  rwa [addr_add rfl, Nat.zero_add] at this
theorem run_eqp {t e : TypeId} (ht : P.underlying t = some (.pointer e)) (a : Option Addr) (w : World) : (Op.equal t (.pointer a) (.pointer none)).run P w = .ok a.isNone w := by
  show (Op.equalIn (9999 + 1) t _ _).run P w = _
  rw [Op.equalIn]; cases a <;> simp [run_underlying ht]
theorem d_eqptr {t ty e : TypeId} {x y : Operand} {a : Option Addr} (ht : P.underlying t = some (.pointer e)) (hx : ev n σ x = .pointer a) (hy : ev n σ y = .pointer none) : OpA P n σ H L (.binOp .eql t x y ty) (Is (.bool a.isNone) H L) := opA_any fun o ho w => by
  unfold execOp; rw [ho]; simp [hx, hy, eqGuard, binOp, run_eqp ht a w]
theorem d_ort {c x y : Operand} {b : Bool} {u : Value} (hc : ev n σ c = .bool b) (hx : ev n σ x = .bool true) (hy : ev n σ y = cond (!b) (.bool true) u) : OpA P n σ H L (.pick c x y) (Is (.bool true) H L) := by
  have := d_or' (P := P) (H := H) (L := L) hc hx hy; rwa [Bool.or_true] at this
theorem d_orf {c x y : Operand} {b : Bool} {u : Value} (hc : ev n σ c = .bool b) (hx : ev n σ x = .bool true) (hy : ev n σ y = cond (!b) (.bool false) u) : OpA P n σ H L (.pick c x y) (Is (.bool b) H L) := by
  have := d_or' (P := P) (H := H) (L := L) hc hx hy; rwa [Bool.or_false] at this
end
/-! ### a choice by an option -/
def oe {α β : Type} (o : Option α) (a : Option β) (f : α → Option β) : Option β := match o with
  | none => a
  | some x => f x
theorem LeO.oe {α β : Type} {o : Option α} {a a' : Option β} {f f' : α → Option β} (h1 : LeO a a') (h2 : ∀ x, LeO (f x) (f' x)) : LeO (oe o a f) (oe o a' f') := by
  cases o with
  | none => exact h1
  | some x => exact h2 x
theorem oes {α β : Type} {o : Option α} {a : Option β} {f : α → Option β} {r : β} (h : oe o a f = some r) : (o = none ∧ a = some r) ∨ ∃ x, o = some x ∧ f x = some r := by
  cases o with
  | none => exact .inl ⟨rfl, h⟩
  | some x => exact .inr ⟨x, rfl, h⟩
end Go.Proofs.YtjhpkkhcgpilfaaDoorK

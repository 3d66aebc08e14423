/- Pointers that are lent, nil pointers, parts of own slices that stay own, maps. -/
import Derived.Test.YtjhpkkhcgpilfaaDoorGCAk10
namespace Go.Proofs.YtjhpkkhcgpilfaaDoorK
open Go Go.RowKit
set_option linter.unusedVariables false
set_option linter.unusedSimpArgs false
theorem Lies.mono {H H' : Hp} {L a cs} (h : Lies H L a cs) (hle : H.le H') : Lies H' L a cs := fun w hw => h w (hw.lower hle)
theorem Lies.th {H : Hp} {it : Item'} {L a cs} (h : Lies H L a cs) : Lies H (it :: L) a cs := fun w hw => h w hw.tail
theorem lies_own {H : Hp} {L : Items} {b : Nat} {cs : List Value} {T : TypeId} {fz} (hm : Has L (some (b, .cells ⟨cs⟩ T fz))) : Lies H L ⟨b, 0, none⟩ cs := by
  have := lies_box (H := H) hm 0 cs.length
  rwa [List.drop_zero, List.take_length] at this
section
variable {P : Program} {f : FB} {n : Nat} {k : List Item} {σ : Nat → Value} {H : Hp} {L : Items} {R : Value → Hp → Items → Prop}
theorem run_eqp {t e : TypeId} (ht : P.underlying t = some (.pointer e)) (a : Option Addr) (w : World) : (Op.equal t (.pointer a) (.pointer none)).run P w = .ok a.isNone w := by
  show (Op.equalIn (9999 + 1) t _ _).run P w = _
  rw [Op.equalIn]; cases a <;> simp [run_underlying ht]
theorem d_eqptr {t ty e : TypeId} {x y : Operand} {a : Option Addr} (ht : P.underlying t = some (.pointer e)) (hx : ev n σ x = .pointer a) (hy : ev n σ y = .pointer none) : OpA P n σ H L (.binOp .eql t x y ty) (Is (.bool a.isNone) H L) := opA_any fun o ho w => by
  unfold execOp; rw [ho]; simp [hx, hy, eqGuard, binOp, run_eqp ht a w]
end
/-! ### a choice by an option -/
end Go.Proofs.YtjhpkkhcgpilfaaDoorK

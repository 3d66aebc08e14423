/- Pointers that are lent, nil pointers, parts of own slices that stay own, maps. -/
import Derived.Test.YtoijknggnlbopaaDoorGCPk10
namespace Go.Proofs.YtoijknggnlbopaaDoorK
open Go Go.RowKit
set_option linter.unusedVariables false
set_option linter.unusedSimpArgs false
theorem Lies.mono {H H' : Hp} {L a cs} (h : Lies H L a cs) (hle : H.le H') : Lies H' L a cs := fun w hw => h w (hw.lower hle)
theorem Lies.th {H : Hp} {it : Item'} {L a cs} (h : Lies H L a cs) : Lies H (it :: L) a cs := fun w hw => h w hw.tail
theorem lies_own {H : Hp} {L : Items} {b : Nat} {cs : List Value} {T : TypeId} {fz} (hm : Has L (some (b, .cells ⟨cs⟩ T fz))) : Lies H L ⟨b, 0, none⟩ cs := by
  have := lies_box (H := H) hm 0 cs.length
  rwa [List.drop_zero, List.take_length] at this
section
variable {P : Program} {f : FB} {n : Nat} {k : List Item} {σ : Nat → Value} {H : Hp} {L : Items} {R : Value → Hp → Items → Prop}
theorem d_loadl {t : TypeId} {x : Operand} {agg : Bool} {sz b off : Nat} {cs cs' : List Value} {v : Value} (ht : TyA P t agg sz) (hx : ev n σ x = .pointer (some ⟨b, off, none⟩)) (hc : Lies H L ⟨b, 0, none⟩ cs) (hcs : (cs.drop off).take sz = cs') (hl : Nat.beq cs'.length sz = true) (h1 : (agg || Nat.beq sz 1) = true) (hv : vof agg cs' = v) :
    OpA P n σ H L (.load t x) (Is v H L) := by
  refine d_load ht hx (Nat.eq_of_beq_eq_true hl) (fun e => by rw [e] at h1; exact Nat.eq_of_beq_eq_true h1) ?_ hv
  subst hcs
  have := hc.part off sz
  rwa [addr_add rfl, Nat.zero_add] at this
end
/-! ### a choice by an option -/
end Go.Proofs.YtoijknggnlbopaaDoorK

/- Short names, for texts that must be short. -/
import Derived.Test.YtlokgnjlnefbbaaDoorGCBk8
namespace Go.Proofs.YtlokgnjlnefbbaaDoorK
open Go Go.RowKit
set_option linter.unusedVariables false
section
variable {P : Program} {f : FuncId} {n : Nat} {k : List Item} {σ : Nat → Value} {H : Hp} {L : Items} {R : Value → Hp → Items → Prop}
theorem wM {ops : Array Oper} {i : Nat} {rest : List Nat} {d : Nat} {x : Operand} (v : Value) (hi : opAt ops i = some (.move x, some d, none)) (hx : ev n σ x = v)
    (hk : Wp P f n (.inRegion ops rest :: k) (upd σ d v) H L R) : Wp P f n (.inRegion ops (i :: rest) :: k) σ H L R := w_d hi (d_move hx) hk
theorem wA {ops : Array Oper} {i : Nat} {rest : List Nat} {d : Nat} {x : Operand} (v : Value) (hi : opAt ops i = some (.assign x, some d, none)) (hx : ev n σ x = v)
    (hk : Wp P f n (.inRegion ops rest :: k) (upd σ d v) H L R) : Wp P f n (.inRegion ops (i :: rest) :: k) σ H L R := w_d hi (d_assign hx) hk
theorem wL {ops : Array Oper} {i : Nat} {rest : List Nat} {d : Nat} {x : Operand} {t : TypeId} {agg : Bool} {sz b off : Nat} {cs : List Value} {T : TypeId} {fz} (v : Value) (ht : TyA P t agg sz) (hi : opAt ops i = some (.load t x, some d, none)) (hx : ev n σ x = .pointer (some ⟨b, off, none⟩)) (hm : Has L (some (b, .cells ⟨cs⟩ T fz))) (h1 : (Nat.beq ((cs.drop off).take sz).length sz && (agg || Nat.beq sz 1)) = true) (hv : vof agg ((cs.drop off).take sz) = v)
    (hk : Wp P f n (.inRegion ops rest :: k) (upd σ d v) H L R) : Wp P f n (.inRegion ops (i :: rest) :: k) σ H L R := w_d hi (d_loado ht hx hm rfl ((Bool.and_eq_true _ _).mp h1).1 ((Bool.and_eq_true _ _).mp h1).2 hv) hk
theorem wR {id : Nat} {ops : Array Oper} {l : List Nat} {y : Code} (hl : List.range ops.size = l) (h : Wp P f n (.inRegion ops l :: .code y :: k) σ H L R) : Wp P f n (.code (.seq (.region id ops false) y) :: k) σ H L R := w_seq (w_region hl h)
theorem wE {ops : Array Oper} {x y : Code} (h : Wp P f n (.code x :: .code y :: k) σ H L R) : Wp P f n (.inRegion ops [] :: .code (.seq x y) :: k) σ H L R := w_done (w_seq h)
theorem wQ {ops' : Array Oper} {id : Nat} {ops : Array Oper} {l : List Nat} {y : Code} (hl : List.range ops.size = l) (h : Wp P f n (.inRegion ops l :: .code y :: k) σ H L R) : Wp P f n (.inRegion ops' [] :: .code (.seq (.region id ops false) y) :: k) σ H L R := w_done (w_seq (w_region hl h))
end
theorem bs {α β : Type} {x : Option α} {g : α → Option β} {r : β} (h : x.bind g = some r) : ∃ a, x = some a ∧ g a = some r := Option.bind_eq_some_iff.1 h
theorem sj {α : Type} {a b : α} (h : some a = some b) : a = b := Option.some.inj h
theorem oc {c : Value} {cs : List Value} (h : c.oneCell' = true) (t : cs.all (·.oneCell') = true) : (c :: cs).all (·.oneCell') = true := one_cons h t
theorem oz : ([] : List Value).all (·.oneCell') = true := rfl
theorem dt {p : Prop} [Decidable p] (h : p) : decide p = true := decide_eq_true h
theorem df {p : Prop} [Decidable p] (h : ¬ p) : decide p = false := decide_eq_false h
abbrev cR (H : Hp) (L : Items) (O : Hp → Value → Prop) : Value → Hp → Items → Prop := fun v H' L' => L = L' ∧ H.le H' ∧ O H' v
abbrev fR (H0 : Hp) (L : Items) (O : Hp → Value → Prop) : Value → Hp → Items → Prop := fun v H' L' => (∃ p, L' = p ++ L) ∧ H0.le H' ∧ O H' v
abbrev kI64 : Kd Int := Kd.int .i64
abbrev kU8 : Kd Int := Kd.int .u8
theorem u1 {c v : Value} {l : List Value} : SetL (c :: l) 0 [v] (v :: l) := .here .done
theorem u2 {a b v w : Value} {l : List Value} : SetL (a :: b :: l) 0 [v, w] (v :: w :: l) := .here (.here .done)
theorem u4 {a b c d v w x y : Value} {l : List Value} : SetL (a :: b :: c :: d :: l) 0 [v, w, x, y] (v :: w :: x :: y :: l) := .here (.here (.here (.here .done)))
theorem dn {F : Nat → Hp → Value → Item' → (Nat → Item') → Prop} {H' : Hp} {m : Nat → Item'} {σ : Nat → Value} {K : (Nat → Value) → Prop} (h : K σ) : DepK F H' m [] σ K := h
end Go.Proofs.YtlokgnjlnefbbaaDoorK

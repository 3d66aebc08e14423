import Derived.Laws.Externs
import Derived.Laws.LoneSync
import Derived.MapKept
import Derived.RangeFuncLeaves
import Derived.Test.YtkccpkccdbfomaaGreatDoorGBHk8
namespace Go.Proofs.YtkccpkccdbfomaaGreatDoorK
open Go Go.RowKit
set_option linter.unusedVariables false
set_option linter.unusedSimpArgs false
section
variable {P : Program} {f : FB} {n : Nat} {k : List Item} {σ : Nat → Value} {H : Hp} {L : Items} {R : Value → Hp → Items → Prop}
theorem wM {ops : Array Oper} {i : Nat} {rest : List Nat} {d : Nat} {x : Operand} (v : Value) (hi : opAt ops i = some (.move x, some d, none)) (hx : ev n σ x = v)
    (hk : Wp P f n (.inRegion ops rest :: k) (upd σ d v) H L R) : Wp P f n (.inRegion ops (i :: rest) :: k) σ H L R := w_d hi (QF hx) hk
theorem wA {ops : Array Oper} {i : Nat} {rest : List Nat} {d : Nat} {x : Operand} (v : Value) (hi : opAt ops i = some (.assign x, some d, none)) (hx : ev n σ x = v)
    (hk : Wp P f n (.inRegion ops rest :: k) (upd σ d v) H L R) : Wp P f n (.inRegion ops (i :: rest) :: k) σ H L R := w_d hi (J9 hx) hk
theorem wL {ops : Array Oper} {i : Nat} {rest : List Nat} {d : Nat} {x : Operand} {t : TypeId} {agg : Bool} {sz b off : Nat} {cs : List Value} {T : TypeId} {fz} (v : Value) (ht : TyA P t agg sz) (hi : opAt ops i = some (.load t x, some d, none)) (hx : ev n σ x = .pointer (some ⟨b, off, none⟩)) (hm : Has L (some (b, .cells ⟨cs⟩ T fz))) (h1 : (Nat.beq ((cs.drop off).take sz).length sz && (agg || Nat.beq sz 1)) = true) (hv : vof agg ((cs.drop off).take sz) = v)
    (hk : Wp P f n (.inRegion ops rest :: k) (upd σ d v) H L R) : Wp P f n (.inRegion ops (i :: rest) :: k) σ H L R := w_d hi (QS ht hx hm rfl ((Bool.and_eq_true _ _).mp h1).1 ((Bool.and_eq_true _ _).mp h1).2 hv) hk
theorem wR {id : Nat} {ops : Array Oper} {l : List Nat} {y : Code} (hl : List.range ops.size = l) (h : Wp P f n (.inRegion ops l :: .code y :: k) σ H L R) : Wp P f n (.code (.seq (.region id ops false) y) :: k) σ H L R := QV (QD hl h)
theorem wE {ops : Array Oper} {x y : Code} (h : Wp P f n (.code x :: .code y :: k) σ H L R) : Wp P f n (.inRegion ops [] :: .code (.seq x y) :: k) σ H L R := Qa (QV h)
theorem wQ {ops' : Array Oper} {id : Nat} {ops : Array Oper} {l : List Nat} {y : Code} (hl : List.range ops.size = l) (h : Wp P f n (.inRegion ops l :: .code y :: k) σ H L R) : Wp P f n (.inRegion ops' [] :: .code (.seq (.region id ops false) y) :: k) σ H L R := Qa (QV (QD hl h))
end
theorem bs {α β : Type} {x : Option α} {g : α → Option β} {r : β} (h : x.bind g = some r) : ∃ a, x = some a ∧ g a = some r := Option.bind_eq_some_iff.1 h
theorem sj {α : Type} {a b : α} (h : some a = some b) : a = b := Option.some.inj h
theorem oc {c : Value} {cs : List Value} (h : c.oneCell' = true) (t : cs.all (·.oneCell') = true) : (c :: cs).all (·.oneCell') = true := VA h t
theorem oz : ([] : List Value).all (·.oneCell') = true := rfl
theorem dt {p : Prop} [Decidable p] (h : p) : decide p = true := decide_eq_true h
theorem df {p : Prop} [Decidable p] (h : ¬ p) : decide p = false := decide_eq_false h
abbrev cR (H : Hp) (L : Items) (O : Hp → Value → Prop) : Value → Hp → Items → Prop := fun v H' L' => L = L' ∧ H.le H' ∧ O H' v
abbrev fR (H0 : Hp) (L : Items) (O : Hp → Value → Prop) : Value → Hp → Items → Prop := fun v H' L' => (∃ p, L' = p ++ L) ∧ H0.le H' ∧ O H' v
abbrev kU32 : Kd Int := Kd.int .u32
abbrev kI64 : Kd Int := Kd.int .i64
abbrev kU8 : Kd Int := Kd.int .u8
theorem u1 {c v : Value} {l : List Value} : SetL (c :: l) 0 [v] (v :: l) := .here .done
theorem u2 {a b v w : Value} {l : List Value} : SetL (a :: b :: l) 0 [v, w] (v :: w :: l) := .here (.here .done)
theorem u4 {a b c d v w x y : Value} {l : List Value} : SetL (a :: b :: c :: d :: l) 0 [v, w, x, y] (v :: w :: x :: y :: l) := .here (.here (.here (.here .done)))
theorem dn {F : Nat → Hp → Value → Item' → (Nat → Item') → Prop} {H' : Hp} {m : Nat → Item'} {σ : Nat → Value} {K : (Nat → Value) → Prop} (h : K σ) : DepK F H' m [] σ K := h
abbrev pt (b : Nat) : Value := .pointer (some ⟨b, 0, none⟩)
abbrev po (b o : Nat) : Value := .pointer (some ⟨b, o, none⟩)
abbrev bx (b : Nat) (cs : List Value) (T : TypeId) : Item' := some (b, .cells ⟨cs⟩ T (0, 0))
theorem Has.h1 {c1 a : Item'} {l : Items} : Has (c1 :: a :: l) a := .there .here
theorem Upd.h1 {c1 a b : Item'} {l : Items} : Upd (c1 :: a :: l) a b (c1 :: b :: l) := .there .here
theorem Del.h1 {c1 a : Item'} {l : Items} : Del (c1 :: a :: l) (c1 :: l) := .there .here
theorem Has.h2 {c1 c2 a : Item'} {l : Items} : Has (c1 :: c2 :: a :: l) a := .there (.there .here)
theorem Upd.h2 {c1 c2 a b : Item'} {l : Items} : Upd (c1 :: c2 :: a :: l) a b (c1 :: c2 :: b :: l) := .there (.there .here)
theorem Del.h2 {c1 c2 a : Item'} {l : Items} : Del (c1 :: c2 :: a :: l) (c1 :: c2 :: l) := .there (.there .here)
theorem Has.h3 {c1 c2 c3 a : Item'} {l : Items} : Has (c1 :: c2 :: c3 :: a :: l) a := .there (.there (.there .here))
theorem Upd.h3 {c1 c2 c3 a b : Item'} {l : Items} : Upd (c1 :: c2 :: c3 :: a :: l) a b (c1 :: c2 :: c3 :: b :: l) := .there (.there (.there .here))
theorem Del.h3 {c1 c2 c3 a : Item'} {l : Items} : Del (c1 :: c2 :: c3 :: a :: l) (c1 :: c2 :: c3 :: l) := .there (.there (.there .here))
theorem Has.h4 {c1 c2 c3 c4 a : Item'} {l : Items} : Has (c1 :: c2 :: c3 :: c4 :: a :: l) a := .there (.there (.there (.there .here)))
theorem Upd.h4 {c1 c2 c3 c4 a b : Item'} {l : Items} : Upd (c1 :: c2 :: c3 :: c4 :: a :: l) a b (c1 :: c2 :: c3 :: c4 :: b :: l) := .there (.there (.there (.there .here)))
theorem Del.h4 {c1 c2 c3 c4 a : Item'} {l : Items} : Del (c1 :: c2 :: c3 :: c4 :: a :: l) (c1 :: c2 :: c3 :: c4 :: l) := .there (.there (.there (.there .here)))
theorem Has.h5 {c1 c2 c3 c4 c5 a : Item'} {l : Items} : Has (c1 :: c2 :: c3 :: c4 :: c5 :: a :: l) a := .there (.there (.there (.there (.there .here))))
theorem Upd.h5 {c1 c2 c3 c4 c5 a b : Item'} {l : Items} : Upd (c1 :: c2 :: c3 :: c4 :: c5 :: a :: l) a b (c1 :: c2 :: c3 :: c4 :: c5 :: b :: l) := .there (.there (.there (.there (.there .here))))
theorem Del.h5 {c1 c2 c3 c4 c5 a : Item'} {l : Items} : Del (c1 :: c2 :: c3 :: c4 :: c5 :: a :: l) (c1 :: c2 :: c3 :: c4 :: c5 :: l) := .there (.there (.there (.there (.there .here))))
theorem Has.h6 {c1 c2 c3 c4 c5 c6 a : Item'} {l : Items} : Has (c1 :: c2 :: c3 :: c4 :: c5 :: c6 :: a :: l) a := .there (.there (.there (.there (.there (.there .here)))))
theorem Upd.h6 {c1 c2 c3 c4 c5 c6 a b : Item'} {l : Items} : Upd (c1 :: c2 :: c3 :: c4 :: c5 :: c6 :: a :: l) a b (c1 :: c2 :: c3 :: c4 :: c5 :: c6 :: b :: l) := .there (.there (.there (.there (.there (.there .here)))))
theorem Del.h6 {c1 c2 c3 c4 c5 c6 a : Item'} {l : Items} : Del (c1 :: c2 :: c3 :: c4 :: c5 :: c6 :: a :: l) (c1 :: c2 :: c3 :: c4 :: c5 :: c6 :: l) := .there (.there (.there (.there (.there (.there .here)))))
theorem Has.h7 {c1 c2 c3 c4 c5 c6 c7 a : Item'} {l : Items} : Has (c1 :: c2 :: c3 :: c4 :: c5 :: c6 :: c7 :: a :: l) a := .there (.there (.there (.there (.there (.there (.there .here))))))
theorem Upd.h7 {c1 c2 c3 c4 c5 c6 c7 a b : Item'} {l : Items} : Upd (c1 :: c2 :: c3 :: c4 :: c5 :: c6 :: c7 :: a :: l) a b (c1 :: c2 :: c3 :: c4 :: c5 :: c6 :: c7 :: b :: l) := .there (.there (.there (.there (.there (.there (.there .here))))))
theorem Del.h7 {c1 c2 c3 c4 c5 c6 c7 a : Item'} {l : Items} : Del (c1 :: c2 :: c3 :: c4 :: c5 :: c6 :: c7 :: a :: l) (c1 :: c2 :: c3 :: c4 :: c5 :: c6 :: c7 :: l) := .there (.there (.there (.there (.there (.there (.there .here))))))
theorem Has.h8 {c1 c2 c3 c4 c5 c6 c7 c8 a : Item'} {l : Items} : Has (c1 :: c2 :: c3 :: c4 :: c5 :: c6 :: c7 :: c8 :: a :: l) a := .there (.there (.there (.there (.there (.there (.there (.there .here)))))))
theorem Upd.h8 {c1 c2 c3 c4 c5 c6 c7 c8 a b : Item'} {l : Items} : Upd (c1 :: c2 :: c3 :: c4 :: c5 :: c6 :: c7 :: c8 :: a :: l) a b (c1 :: c2 :: c3 :: c4 :: c5 :: c6 :: c7 :: c8 :: b :: l) := .there (.there (.there (.there (.there (.there (.there (.there .here)))))))
theorem Del.h8 {c1 c2 c3 c4 c5 c6 c7 c8 a : Item'} {l : Items} : Del (c1 :: c2 :: c3 :: c4 :: c5 :: c6 :: c7 :: c8 :: a :: l) (c1 :: c2 :: c3 :: c4 :: c5 :: c6 :: c7 :: c8 :: l) := .there (.there (.there (.there (.there (.there (.there (.there .here)))))))
theorem Has.h9 {c1 c2 c3 c4 c5 c6 c7 c8 c9 a : Item'} {l : Items} : Has (c1 :: c2 :: c3 :: c4 :: c5 :: c6 :: c7 :: c8 :: c9 :: a :: l) a := .there (.there (.there (.there (.there (.there (.there (.there (.there .here))))))))
theorem Upd.h9 {c1 c2 c3 c4 c5 c6 c7 c8 c9 a b : Item'} {l : Items} : Upd (c1 :: c2 :: c3 :: c4 :: c5 :: c6 :: c7 :: c8 :: c9 :: a :: l) a b (c1 :: c2 :: c3 :: c4 :: c5 :: c6 :: c7 :: c8 :: c9 :: b :: l) := .there (.there (.there (.there (.there (.there (.there (.there (.there .here))))))))
theorem Del.h9 {c1 c2 c3 c4 c5 c6 c7 c8 c9 a : Item'} {l : Items} : Del (c1 :: c2 :: c3 :: c4 :: c5 :: c6 :: c7 :: c8 :: c9 :: a :: l) (c1 :: c2 :: c3 :: c4 :: c5 :: c6 :: c7 :: c8 :: c9 :: l) := .there (.there (.there (.there (.there (.there (.there (.there (.there .here))))))))
theorem Has.h10 {c1 c2 c3 c4 c5 c6 c7 c8 c9 c10 a : Item'} {l : Items} : Has (c1 :: c2 :: c3 :: c4 :: c5 :: c6 :: c7 :: c8 :: c9 :: c10 :: a :: l) a := .there (.there (.there (.there (.there (.there (.there (.there (.there (.there .here)))))))))
theorem Upd.h10 {c1 c2 c3 c4 c5 c6 c7 c8 c9 c10 a b : Item'} {l : Items} : Upd (c1 :: c2 :: c3 :: c4 :: c5 :: c6 :: c7 :: c8 :: c9 :: c10 :: a :: l) a b (c1 :: c2 :: c3 :: c4 :: c5 :: c6 :: c7 :: c8 :: c9 :: c10 :: b :: l) := .there (.there (.there (.there (.there (.there (.there (.there (.there (.there .here)))))))))
theorem Del.h10 {c1 c2 c3 c4 c5 c6 c7 c8 c9 c10 a : Item'} {l : Items} : Del (c1 :: c2 :: c3 :: c4 :: c5 :: c6 :: c7 :: c8 :: c9 :: c10 :: a :: l) (c1 :: c2 :: c3 :: c4 :: c5 :: c6 :: c7 :: c8 :: c9 :: c10 :: l) := .there (.there (.there (.there (.there (.there (.there (.there (.there (.there .here)))))))))
theorem Has.h11 {c1 c2 c3 c4 c5 c6 c7 c8 c9 c10 c11 a : Item'} {l : Items} : Has (c1 :: c2 :: c3 :: c4 :: c5 :: c6 :: c7 :: c8 :: c9 :: c10 :: c11 :: a :: l) a := .there (.there (.there (.there (.there (.there (.there (.there (.there (.there (.there .here))))))))))
theorem Upd.h11 {c1 c2 c3 c4 c5 c6 c7 c8 c9 c10 c11 a b : Item'} {l : Items} : Upd (c1 :: c2 :: c3 :: c4 :: c5 :: c6 :: c7 :: c8 :: c9 :: c10 :: c11 :: a :: l) a b (c1 :: c2 :: c3 :: c4 :: c5 :: c6 :: c7 :: c8 :: c9 :: c10 :: c11 :: b :: l) := .there (.there (.there (.there (.there (.there (.there (.there (.there (.there (.there .here))))))))))
theorem Del.h11 {c1 c2 c3 c4 c5 c6 c7 c8 c9 c10 c11 a : Item'} {l : Items} : Del (c1 :: c2 :: c3 :: c4 :: c5 :: c6 :: c7 :: c8 :: c9 :: c10 :: c11 :: a :: l) (c1 :: c2 :: c3 :: c4 :: c5 :: c6 :: c7 :: c8 :: c9 :: c10 :: c11 :: l) := .there (.there (.there (.there (.there (.there (.there (.there (.there (.there (.there .here))))))))))
theorem Has.h12 {c1 c2 c3 c4 c5 c6 c7 c8 c9 c10 c11 c12 a : Item'} {l : Items} : Has (c1 :: c2 :: c3 :: c4 :: c5 :: c6 :: c7 :: c8 :: c9 :: c10 :: c11 :: c12 :: a :: l) a := .there (.there (.there (.there (.there (.there (.there (.there (.there (.there (.there (.there .here)))))))))))
theorem Upd.h12 {c1 c2 c3 c4 c5 c6 c7 c8 c9 c10 c11 c12 a b : Item'} {l : Items} : Upd (c1 :: c2 :: c3 :: c4 :: c5 :: c6 :: c7 :: c8 :: c9 :: c10 :: c11 :: c12 :: a :: l) a b (c1 :: c2 :: c3 :: c4 :: c5 :: c6 :: c7 :: c8 :: c9 :: c10 :: c11 :: c12 :: b :: l) := .there (.there (.there (.there (.there (.there (.there (.there (.there (.there (.there (.there .here)))))))))))
theorem Del.h12 {c1 c2 c3 c4 c5 c6 c7 c8 c9 c10 c11 c12 a : Item'} {l : Items} : Del (c1 :: c2 :: c3 :: c4 :: c5 :: c6 :: c7 :: c8 :: c9 :: c10 :: c11 :: c12 :: a :: l) (c1 :: c2 :: c3 :: c4 :: c5 :: c6 :: c7 :: c8 :: c9 :: c10 :: c11 :: c12 :: l) := .there (.there (.there (.there (.there (.there (.there (.there (.there (.there (.there (.there .here)))))))))))
theorem Has.h13 {c1 c2 c3 c4 c5 c6 c7 c8 c9 c10 c11 c12 c13 a : Item'} {l : Items} : Has (c1 :: c2 :: c3 :: c4 :: c5 :: c6 :: c7 :: c8 :: c9 :: c10 :: c11 :: c12 :: c13 :: a :: l) a := .there (.there (.there (.there (.there (.there (.there (.there (.there (.there (.there (.there (.there .here))))))))))))
theorem Upd.h13 {c1 c2 c3 c4 c5 c6 c7 c8 c9 c10 c11 c12 c13 a b : Item'} {l : Items} : Upd (c1 :: c2 :: c3 :: c4 :: c5 :: c6 :: c7 :: c8 :: c9 :: c10 :: c11 :: c12 :: c13 :: a :: l) a b (c1 :: c2 :: c3 :: c4 :: c5 :: c6 :: c7 :: c8 :: c9 :: c10 :: c11 :: c12 :: c13 :: b :: l) := .there (.there (.there (.there (.there (.there (.there (.there (.there (.there (.there (.there (.there .here))))))))))))
theorem Del.h13 {c1 c2 c3 c4 c5 c6 c7 c8 c9 c10 c11 c12 c13 a : Item'} {l : Items} : Del (c1 :: c2 :: c3 :: c4 :: c5 :: c6 :: c7 :: c8 :: c9 :: c10 :: c11 :: c12 :: c13 :: a :: l) (c1 :: c2 :: c3 :: c4 :: c5 :: c6 :: c7 :: c8 :: c9 :: c10 :: c11 :: c12 :: c13 :: l) := .there (.there (.there (.there (.there (.there (.there (.there (.there (.there (.there (.there (.there .here))))))))))))
theorem Has.h14 {c1 c2 c3 c4 c5 c6 c7 c8 c9 c10 c11 c12 c13 c14 a : Item'} {l : Items} : Has (c1 :: c2 :: c3 :: c4 :: c5 :: c6 :: c7 :: c8 :: c9 :: c10 :: c11 :: c12 :: c13 :: c14 :: a :: l) a := .there (.there (.there (.there (.there (.there (.there (.there (.there (.there (.there (.there (.there (.there .here)))))))))))))
theorem Upd.h14 {c1 c2 c3 c4 c5 c6 c7 c8 c9 c10 c11 c12 c13 c14 a b : Item'} {l : Items} : Upd (c1 :: c2 :: c3 :: c4 :: c5 :: c6 :: c7 :: c8 :: c9 :: c10 :: c11 :: c12 :: c13 :: c14 :: a :: l) a b (c1 :: c2 :: c3 :: c4 :: c5 :: c6 :: c7 :: c8 :: c9 :: c10 :: c11 :: c12 :: c13 :: c14 :: b :: l) := .there (.there (.there (.there (.there (.there (.there (.there (.there (.there (.there (.there (.there (.there .here)))))))))))))
theorem Del.h14 {c1 c2 c3 c4 c5 c6 c7 c8 c9 c10 c11 c12 c13 c14 a : Item'} {l : Items} : Del (c1 :: c2 :: c3 :: c4 :: c5 :: c6 :: c7 :: c8 :: c9 :: c10 :: c11 :: c12 :: c13 :: c14 :: a :: l) (c1 :: c2 :: c3 :: c4 :: c5 :: c6 :: c7 :: c8 :: c9 :: c10 :: c11 :: c12 :: c13 :: c14 :: l) := .there (.there (.there (.there (.there (.there (.there (.there (.there (.there (.there (.there (.there (.there .here)))))))))))))
theorem Has.h15 {c1 c2 c3 c4 c5 c6 c7 c8 c9 c10 c11 c12 c13 c14 c15 a : Item'} {l : Items} : Has (c1 :: c2 :: c3 :: c4 :: c5 :: c6 :: c7 :: c8 :: c9 :: c10 :: c11 :: c12 :: c13 :: c14 :: c15 :: a :: l) a := .there (.there (.there (.there (.there (.there (.there (.there (.there (.there (.there (.there (.there (.there (.there .here))))))))))))))
theorem Upd.h15 {c1 c2 c3 c4 c5 c6 c7 c8 c9 c10 c11 c12 c13 c14 c15 a b : Item'} {l : Items} : Upd (c1 :: c2 :: c3 :: c4 :: c5 :: c6 :: c7 :: c8 :: c9 :: c10 :: c11 :: c12 :: c13 :: c14 :: c15 :: a :: l) a b (c1 :: c2 :: c3 :: c4 :: c5 :: c6 :: c7 :: c8 :: c9 :: c10 :: c11 :: c12 :: c13 :: c14 :: c15 :: b :: l) := .there (.there (.there (.there (.there (.there (.there (.there (.there (.there (.there (.there (.there (.there (.there .here))))))))))))))
theorem Del.h15 {c1 c2 c3 c4 c5 c6 c7 c8 c9 c10 c11 c12 c13 c14 c15 a : Item'} {l : Items} : Del (c1 :: c2 :: c3 :: c4 :: c5 :: c6 :: c7 :: c8 :: c9 :: c10 :: c11 :: c12 :: c13 :: c14 :: c15 :: a :: l) (c1 :: c2 :: c3 :: c4 :: c5 :: c6 :: c7 :: c8 :: c9 :: c10 :: c11 :: c12 :: c13 :: c14 :: c15 :: l) := .there (.there (.there (.there (.there (.there (.there (.there (.there (.there (.there (.there (.there (.there (.there .here))))))))))))))
theorem Has.h16 {c1 c2 c3 c4 c5 c6 c7 c8 c9 c10 c11 c12 c13 c14 c15 c16 a : Item'} {l : Items} : Has (c1 :: c2 :: c3 :: c4 :: c5 :: c6 :: c7 :: c8 :: c9 :: c10 :: c11 :: c12 :: c13 :: c14 :: c15 :: c16 :: a :: l) a := .there (.there (.there (.there (.there (.there (.there (.there (.there (.there (.there (.there (.there (.there (.there (.there .here)))))))))))))))
theorem Upd.h16 {c1 c2 c3 c4 c5 c6 c7 c8 c9 c10 c11 c12 c13 c14 c15 c16 a b : Item'} {l : Items} : Upd (c1 :: c2 :: c3 :: c4 :: c5 :: c6 :: c7 :: c8 :: c9 :: c10 :: c11 :: c12 :: c13 :: c14 :: c15 :: c16 :: a :: l) a b (c1 :: c2 :: c3 :: c4 :: c5 :: c6 :: c7 :: c8 :: c9 :: c10 :: c11 :: c12 :: c13 :: c14 :: c15 :: c16 :: b :: l) := .there (.there (.there (.there (.there (.there (.there (.there (.there (.there (.there (.there (.there (.there (.there (.there .here)))))))))))))))
theorem Del.h16 {c1 c2 c3 c4 c5 c6 c7 c8 c9 c10 c11 c12 c13 c14 c15 c16 a : Item'} {l : Items} : Del (c1 :: c2 :: c3 :: c4 :: c5 :: c6 :: c7 :: c8 :: c9 :: c10 :: c11 :: c12 :: c13 :: c14 :: c15 :: c16 :: a :: l) (c1 :: c2 :: c3 :: c4 :: c5 :: c6 :: c7 :: c8 :: c9 :: c10 :: c11 :: c12 :: c13 :: c14 :: c15 :: c16 :: l) := .there (.there (.there (.there (.there (.there (.there (.there (.there (.there (.there (.there (.there (.there (.there (.there .here)))))))))))))))
theorem bK {α β : Type} {x : Option α} {g : α → Option β} {r : β} {C : Prop} (h : x.bind g = some r) (k : ∀ a, x = some a → g a = some r → C) : C := let ⟨a, h1, h2⟩ := bs h; k a h1 h2
theorem rK {α : Type} {p : Prop} [Decidable p] {x : Option α} {r : α} {C : Prop} (h : (if p then x else none) = some r) (k : p → x = some r → C) : C := let ⟨h1, h2⟩ := rq h; k h1 h2
section
variable {P : Program} {f : FB} {n : Nat} {k : List Item} {σ : Nat → Value} {H : Hp} {L : Items} {R : Value → Hp → Items → Prop}
theorem wS {ops : Array Oper} {i : Nat} {rest : List Nat} {t : TypeId} {x y : Operand} {b off sz : Nat} {cs cs' vs : List Value} {T : TypeId} (v : Value) {L' : Items} (hsz : (P.info? t).map (·.size) = some sz) (hi : opAt ops i = some (.store t x y, none, none)) (hx : ev n σ x = .pointer (some ⟨b, off, none⟩)) (hy : ev n σ y = v) (hv : v.cells = ⟨vs⟩) (hl : Nat.beq vs.length sz = true) (h1 : vs.all (·.oneCell') = true)
    (hu : Upd L (some (b, .cells ⟨cs⟩ T (0, 0))) (some (b, .cells ⟨cs'⟩ T (0, 0))) L') (hs : SetL cs off vs cs') (hk : Wp P f n (.inRegion ops rest :: k) σ H L' R) : Wp P f n (.inRegion ops (i :: rest) :: k) σ H L R :=
  w_a0 hi (YE hsz hx hy hv hl h1 hu hs) (by rintro _ _ _ ⟨rfl, rfl, rfl⟩; exact hk)
theorem wB {ops : Array Oper} {i : Nat} {rest : List Nat} {t : TypeId} {d : Nat} {x : Operand} (v : Value) {cs : List Value} (hi : opAt ops i = some (.box t x, some d, none)) (hx : ev n σ x = v) (hv : v.cells = ⟨cs⟩) (hk : ∀ b, Wp P f n (.inRegion ops rest :: k) (upd σ d (.pointer (some ⟨b, 0, none⟩))) H (some (b, .cells ⟨cs⟩ t (0, 0)) :: L) R) : Wp P f n (.inRegion ops (i :: rest) :: k) σ H L R :=
  w_a hi (QaL hx hv) (by rintro _ _ _ ⟨b, rfl, rfl, rfl⟩; exact hk b)
theorem wN {ops : Array Oper} {i : Nat} {rest : List Nat} {t : TypeId} {d : Nat} {z : Value} {cs : List Value} (hz : (P.info? t).bind (·.zero) = some z) (hi : opAt ops i = some (.alloc t, some d, none)) (hv : z.cells = ⟨cs⟩) (hk : ∀ b, Wp P f n (.inRegion ops rest :: k) (upd σ d (.pointer (some ⟨b, 0, none⟩))) H (some (b, .cells ⟨cs⟩ t (0, 0)) :: L) R) : Wp P f n (.inRegion ops (i :: rest) :: k) σ H L R :=
  w_a hi (Y5 hz hv) (by rintro _ _ _ ⟨b, rfl, rfl, rfl⟩; exact hk b)
end

def cutv (sz : Nat) (v : Value) (a b : Int) : Value := match v with
  | .slice A _ c => .slice (if c = a.toNat then A else A.map (·.add (a.toNat * sz))) (b.toNat - a.toNat) (c - a.toNat)
  | v => v
def cpy {α : Type} (xs : List α) (a : Int) (ys : List α) : List α := xs.take a.toNat ++ ys.take (xs.length - a.toNat) ++ xs.drop (a.toNat + ys.length)
section
variable {P : Program} {f : FB} {n : Nat} {k : List Item} {σ : Nat → Value} {H : Hp} {L : Items} {R : Value → Hp → Items → Prop}
theorem V2 {α : Type} {kd : Kd α} {v : Value} {xs : List α} {a b : Int} (hs : Src kd H L v xs) (hab : 0 ≤ a ∧ a ≤ b ∧ b ≤ (xs.length : Int)) : Src kd H L (cutv kd.sz v a b) (cut xs a b) := by
  obtain ⟨A, c, rfl, h2, h3⟩ := hs
  obtain ⟨h0, hab, hb⟩ := hab
  have hl : (cut xs a b).length = b.toNat - a.toNat := by unfold cut; simp; omega
  refine ⟨if c = a.toNat then A else A.map (·.add (a.toNat * kd.sz)), c - a.toNat, by rw [hl]; rfl, by rw [hl]; omega, ?_⟩
  by_cases hne : a.toNat = b.toNat
  · left; apply List.eq_nil_of_length_eq_zero; rw [hl]; omega
  · right
    rcases h3 with rfl | ⟨ad, inner, rfl, hsp, h4, h5⟩
    · simp at hb; omega
    · rw [if_neg (by omega)]
      refine ⟨_, _, rfl, ?_, h4.part (a.toNat * kd.sz) ((b.toNat - a.toNat) * kd.sz), ?_⟩
      · unfold Addr.add; split
        · exact hsp
        · rfl
      · have h6 := (h5.drop a.toNat).take (b.toNat - a.toNat)
        have : cut xs a b = (xs.drop a.toNat).take (b.toNat - a.toNat) := by unfold cut; rw [List.drop_take]
        rw [this]; exact h6
end

theorem Lies.mono {H H' : Hp} {L a cs} (h : Lies H L a cs) (hle : H.le H') : Lies H' L a cs := fun w hw => h w (hw.lower hle)
theorem Lies.th {H : Hp} {it : Item'} {L a cs} (h : Lies H L a cs) : Lies H (it :: L) a cs := fun w hw => h w hw.tail
theorem Vt {H : Hp} {L : Items} {b : Nat} {cs : List Value} {T : TypeId} {fz} (hm : Has L (some (b, .cells ⟨cs⟩ T fz))) : Lies H L ⟨b, 0, none⟩ cs := by
  have := JD (H := H) hm 0 cs.length
  rwa [List.drop_zero, List.take_length] at this
section
variable {P : Program} {f : FB} {n : Nat} {k : List Item} {σ : Nat → Value} {H : Hp} {L : Items} {R : Value → Hp → Items → Prop}
end

def chL : List Nat → (Nat → Option Items) → Items → Items
  | [], _, L => L
  | c :: r, m, L => chL r m ((m c).getD L)
def noneAt (m : Nat → Option Items) : List Nat → Prop
  | [] => True
  | q :: r => m q = none ∧ noneAt m r
theorem Zg : ∀ {post : List Nat} {m : Nat → Option Items} {L : Items}, noneAt m post → chL post m L = L
  | [], m, L, _ => rfl
  | q :: r, m, L, h => by show chL r m ((m q).getD L) = L; rw [h.1]; exact Zg h.2
theorem UA {post : List Nat} {m : Nat → Option Items} {c : Nat} {l : Items} (h : noneAt m post) (hc : m c = some l) : ∀ {pre : List Nat} {L : Items}, chL (pre ++ c :: post) m L = l
  | [], L => by show chL post m ((m c).getD L) = l; rw [hc]; exact Zg h
  | q :: r, L => by show chL (r ++ c :: post) m _ = l; exact UA h hc
theorem Me {m : Nat → Option Items} {c : Nat} {x : Option Items} : ∀ {post : List Nat}, post.all (fun q => !Nat.beq q c) = true → noneAt m post → noneAt (updm m c x) post
  | [], _, _ => trivial
  | q :: r, h, hn => by
    simp only [List.all_cons, Bool.and_eq_true, Bool.not_eq_true'] at h
    exact ⟨by unfold updm; rw [h.1]; exact hn.1, Me h.2 hn.2⟩
theorem Ul {pre post : List Nat} {m : Nat → Option Items} {c : Nat} {l L : Items} (hne : post.all (fun q => !Nat.beq q c) = true) (h : noneAt m post) : chL (pre ++ c :: post) (updm m c (some l)) L = l :=
  UA (Me hne h) (J4 _ _ _)
structure Fc where
  p : Hp → Value → Option Items → Prop
  mono : ∀ H H' v it, H.le H' → p H v it → p H' v it
def Fc.is (v : Value) : Fc := ⟨fun _ v' it => v = v' ∧ it = none, fun _ _ _ _ _ h => h⟩
def Fc.of (P : Hp → Value → Prop) (hm : ∀ {H H' : Hp} {v : Value}, H.le H' → P H v → P H' v) : Fc := ⟨fun H v it => P H v ∧ it = none, fun _ _ _ _ hle h => ⟨hm hle h.1, h.2⟩⟩
def Fc.ro {α : Type} (k : Kd α) (xs : List α) : Fc := .of (fun H v => Ro k H v xs) fun hle h => h.mono hle
def Fc.ch (P : Hp → Value → Items → Prop) (hm : ∀ {H H' : Hp} {v : Value} {l : Items}, H.le H' → P H v l → P H' v l) : Fc := ⟨fun H v it => ∃ l, it = some l ∧ P H v l, fun _ _ _ _ hle h => let ⟨l, a, b⟩ := h; ⟨l, a, hm hle b⟩⟩
def fcF (l : List Fc) (i : Nat) (H : Hp) (v : Value) (it : Option Items) (_ : Nat → Option Items) : Prop := match l[i]? with
  | some f => f.p H v it
  | none => True
def fcX (ops : Array Oper) (p : Nat) (F : Nat → Hp → Value → Option Items → (Nat → Option Items) → Prop) (i : Nat) (H' : Hp) (m : Nat → Option Items) : Prop :=
  (∀ q, anc ops ops.size q i = true → q < ops.size → m q = none) ∧ (∀ j, anc ops ops.size i j = true → j < p → ∃ v, F j H' v (m j) m) ∧ ∀ j, j < p → m j = none ∨ ∃ v, F j H' v (m j) m
section
variable {P : Program} {f : FB} {n : Nat} {k : List Item} {σ : Nat → Value} {H : Hp} {R : Value → Hp → Items → Prop}
theorem MG {id : Nat} {ops : Array Oper} {p : Nat} {tl : List Nat} (ch : List Nat) (L0 : Items) (ds : List (List Dep)) (dsts : List (Option Nat)) (l : List Fc) (hm : P.follows .mixedOrders = true) (hck : drawOk ops p = true) (hdk : depsOk ops p ds dsts = true) (htl : List.range' p (ops.size - p) = tl)
    (hstep : StepsX P n ops (fcF l) (fun m => chL ch m L0) (fun _ => none) H σ (fcX ops p (fcF l)) 0 ds) (hfin : ∀ H', H.le H' → FinK (fcF l) H' (fun σ' m => Wp P f n (.inRegion ops tl :: k) σ' H' (chL ch m L0) R) 0 dsts σ (fun _ => none)) (h0 : chL ch (fun _ => none) L0 = L0) :
    Wp P f n (.code (.region id ops true) :: k) σ H L0 R := by
  have := NV (k := k) (f := f) (R := R) (id := id) ds dsts (fcF l) (fun m => chL ch m L0) (fun _ => none) hm hck hdk htl (fun i H H' v m m' hle h1 _ h => by
    unfold fcF at h ⊢
    cases e : l[i]? with
    | none => trivial
    | some f => rw [e] at h; rw [h1]; exact f.mono _ _ _ _ hle h) (X := fcX ops p (fcF l)) (fun i H' m hi h1 h2 h3 => ⟨fun q a b => h1 q b a, fun j a b => h2 j b a, h3⟩) hstep hfin
  rwa [h0] at this
variable {L : Items}
theorem c_de {ops : Array Oper} {i : Nat} {op : Op} {d : Option Nat} {v : Value} {H' : Hp} {L0 : Items} {ch : List Nat} {m : Nat → Option Items} {Φ : Hp → Value → Option Items → Prop} (hm : m i = none) (hL : chL ch m L0 = L) (hi : opAt ops i = some (op, d, none)) (h : OpA P n σ H' L op (Is v H' L)) (hF : Φ H' v none) :
    GopA P n ops i σ H' (chL ch m L0) fun v H'' L'' => ∃ it, L'' = chL ch (updm m i it) L0 ∧ H'.le H'' ∧ Φ H'' v it := by
  subst hL
  unfold GopA; rw [hi]
  have e : updm m i none = m := by have := M7 m i; rwa [hm] at this
  exact fun o ho => (h o ho).mono fun v' H2 L2 ⟨a, b, c⟩ => ⟨none, by rw [e]; exact c, by rw [b]; exact .refl _, by rw [a, b]; exact hF⟩
theorem c_d {ops : Array Oper} {i : Nat} {op : Op} {d : Option Nat} {v : Value} {H' : Hp} {L0 : Items} {ch : List Nat} {m : Nat → Option Items} {Φ : Hp → Value → Option Items → Prop} (hm : m i = none) (hi : opAt ops i = some (op, d, none)) (h : OpA P n σ H' (chL ch m L0) op (Is v H' (chL ch m L0))) (hF : Φ H' v none) :
    GopA P n ops i σ H' (chL ch m L0) fun v H'' L'' => ∃ it, L'' = chL ch (updm m i it) L0 ∧ H'.le H'' ∧ Φ H'' v it := by
  unfold GopA; rw [hi]
  have e : updm m i none = m := by have := M7 m i; rwa [hm] at this
  exact fun o ho => (h o ho).mono fun v' H2 L2 ⟨a, b, c⟩ => ⟨none, by rw [e]; exact c, by rw [b]; exact .refl _, by rw [a, b]; exact hF⟩
theorem c_w {ops : Array Oper} {i : Nat} {op : Op} {d : Option Nat} {Ψ : Value → Hp → Items → Prop} {H' : Hp} {L0 : Items} {ch : List Nat} {m : Nat → Option Items} {Φ : Hp → Value → Option Items → Prop} (hi : opAt ops i = some (op, d, none)) (hl : ∀ l, chL ch (updm m i (some l)) L0 = l) (h : OpA P n σ H' L op Ψ) (hL : chL ch m L0 = L) (hF : ∀ v H'' L'', Ψ v H'' L'' → H'.le H'' ∧ Φ H'' v (some L'')) :
    GopA P n ops i σ H' (chL ch m L0) fun v H'' L'' => ∃ it, L'' = chL ch (updm m i it) L0 ∧ H'.le H'' ∧ Φ H'' v it := by
  subst hL
  unfold GopA; rw [hi]
  exact fun o ho => (h o ho).mono fun v H'' L'' x => ⟨some L'', (hl L'').symm, (hF v H'' L'' x).1, (hF v H'' L'' x).2⟩
end

structure ExtOk (P : Program) (g : FuncId) (e : Array Value → Sem Value) : Prop where
  ok : ∃ fn, P.funcs[g]? = some fn ∧ (fn.name == "runtime.NumGoroutine") = false ∧ fn.body.isNone = true ∧ Extern.findNext fn = none ∧ Extern.find fn = some e
section
variable {P : Program} {f : FB} {n : Nat} {k : List Item} {σ : Nat → Value} {H : Hp} {L : Items} {R : Value → Hp → Items → Prop}
end

section
variable {P : Program} {f : FB} {n : Nat} {k : List Item} {σ : Nat → Value} {H : Hp} {L : Items} {R : Value → Hp → Items → Prop}
end

structure Mk (α β : Type) [DecidableEq α] where
  key : α → Value
  val : β → Value
  kk : TypeDesc
  same : ∀ a b, Instr.sameNow kk (key a) (key b) = some (decide (a = b))
  bits : ∀ a, Instr.sameBits 10000 (key a) (key a) = true
  chk : ∀ (P : Program) (em : Bool) (kt : TypeId) (a : α) (w : World), P.underlying kt = some kk → (Instr.checkKey em 10000 kt (key a)).run P w = .ok () w
section
variable {α β : Type} [DecidableEq α]
def Mp (mk : Mk α β) (H : Hp) (T : TypeId) (it : Item') (v : Value) (m : List (α × β)) : Prop := ∃ b es clock, it = some (b, .map es clock) ∧ v = .map (some b) ∧ es.toList.map (fun e => (e.key, e.val)) = m.map fun p => (mk.key p.1, mk.val p.2)
theorem Mp.mono {mk : Mk α β} {H H' : Hp} {T it v m} (h : Mp mk H T it v m) (_ : H.le H') : Mp mk H' T it v m := h
variable {P : Program} {f : FB} {n : Nat} {k : List Item} {σ : Nat → Value} {H : Hp} {L : Items} {R : Value → Hp → Items → Prop}
end
section
variable {P : Program} {f : FB} {n : Nat} {k : List Item} {σ : Nat → Value} {H : Hp} {L : Items} {R : Value → Hp → Items → Prop}
end
section
variable {P : Program} {f : FuncId} {H : Hp} {L : Items}
end
section
variable {P : Program} {n : Nat} {σ : Nat → Value}
end
section
variable {P : Program} {f : FB} {n : Nat} {k : List Item} {σ : Nat → Value} {H : Hp} {L : Items} {R : Value → Hp → Items → Prop}
end

section
variable {P : Program} {f : FB} {n : Nat} {k : List Item} {σ : Nat → Value} {H : Hp} {L : Items} {R : Value → Hp → Items → Prop}
variable {g : FuncId} {t : Array Value} {ps : Array Tmp} {as_ bd : Code} {r l : Nat}
end
def Sf (A B : Items) : Prop := ∃ p, B = p ++ A
theorem Sf.refl (A : Items) : Sf A A := ⟨[], rfl⟩
theorem Sf.th {A B : Items} {it : Item'} (h : Sf A B) : Sf A (it :: B) := by obtain ⟨p, rfl⟩ := h; exact ⟨it :: p, rfl⟩
theorem Src.cells {α : Type} {k : Kd α} {H L v xs} (h : Src (α := α) k H L v xs) : v.cells = ⟨[v]⟩ := by obtain ⟨A, c, rfl, _⟩ := h; rfl
theorem Src.one {α : Type} {k : Kd α} {H L v xs} (h : Src (α := α) k H L v xs) : v.oneCell' = true := by obtain ⟨A, c, rfl, _⟩ := h; rfl

structure Kf (α β : Type) where
  raw : Kd (α × β)
  ro : Kd α
  fam : Hp → Items → α → β → Prop
  mono : ∀ {H H' its a b}, H.le H' → fam H its a b → fam H' its a b
  fr : ∀ {H w its L cs a b}, Own H w (its ++ L) → fam H its a b → raw.rep H cs (a, b) → ∃ H', H.le H' ∧ Own H' w L ∧ ro.rep H' cs a
  sz : ro.sz = raw.sz
def FamR {α β : Type} (k : Kf α β) (H : Hp) : Items → List α → List β → Prop
  | F, [], [] => F = []
  | F, a :: l1, b :: bs => ∃ its r, F = its ++ r ∧ k.fam H its a b ∧ FamR k H r l1 bs
  | _, _, _ => False
def SlF {α β : Type} (k : Kf α β) (H : Hp) (T : TypeId) (it : Item') (F : Items) (v : Value) (xs : List α) : Prop := ∃ bs, FamR k H F xs bs ∧ Sl k.raw H T it v (xs.zip bs)
section
variable {α β : Type} {k : Kf α β} {H H' : Hp}
theorem FamR.mono (hle : H.le H') : ∀ {F : Items} {xs : List α} {bs : List β}, FamR k H F xs bs → FamR k H' F xs bs
  | _, [], [], h => h
  | _, a :: l1, b :: bs, ⟨its, r, e, h1, h2⟩ => ⟨its, r, e, k.mono hle h1, FamR.mono hle h2⟩
  | _, [], _ :: _, h => h.elim
  | _, _ :: _, [], h => h.elim
theorem FamR.len : ∀ {F : Items} {xs : List α} {bs : List β}, FamR k H F xs bs → xs.length = bs.length
  | _, [], [], _ => rfl
  | _, a :: l1, b :: bs, ⟨_, _, _, _, h2⟩ => by rw [List.length_cons, List.length_cons, FamR.len h2]
  | _, [], _ :: _, h => h.elim
  | _, _ :: _, [], h => h.elim
theorem FamR.at_ : ∀ {F : Items} {xs : List α} {bs : List β}, FamR k H F xs bs → ∀ n (hn : n < xs.length) (hb : n < bs.length), ∃ A its B, F = A ++ (its ++ B) ∧ k.fam H its xs[n] bs[n] ∧
    ∀ {H' its' a' b'}, H.le H' → k.fam H' its' a' b' → FamR k H' (A ++ (its' ++ B)) (xs.set n a') (bs.set n b')
  | _, a :: l1, b :: bs, ⟨its, r, e, h1, h2⟩, 0, _, _ => ⟨[], its, r, e, h1, fun hle h => ⟨_, r, rfl, h, FamR.mono hle h2⟩⟩
  | _, a :: l1, b :: bs, ⟨its, r, e, h1, h2⟩, n + 1, hn, hb => by
    obtain ⟨A, i2, B, e2, h3, h4⟩ := FamR.at_ h2 n (by simpa using hn) (by simpa using hb)
    refine ⟨its ++ A, i2, B, by rw [e, e2, List.append_assoc], h3, fun hle h => ⟨its, _, ?_, k.mono hle h1, h4 hle h⟩⟩
    rw [List.append_assoc]
  | _, [], [], _, n, hn, _ => by simp at hn
theorem SlF.mono {T it F v} {xs : List α} (h : SlF k H T it F v xs) (hle : H.le H') : SlF k H' T it F v xs := let ⟨bs, a, b⟩ := h; ⟨bs, a.mono hle, b.mono hle⟩
theorem W0 {n : Nat} {a' : α} {b' : β} : ∀ {xs : List α} {bs : List β}, (xs.set n a').zip (bs.set n b') = (xs.zip bs).set n (a', b') := by
  intro xs
  induction xs generalizing n with
  | nil => intro bs; simp
  | cons x xs ih =>
    intro bs
    cases bs with
    | nil => simp
    | cons b bs => cases n with
      | zero => simp
      | succ n => simp [ih]
theorem SlF.open [Inhabited α] {T it F v} {xs : List α} {i : Int} (h : SlF k H T it F v xs) (hi : In xs i) : ∃ A its B rs b, F = A ++ (its ++ B) ∧ k.fam H its (rd xs i) b ∧ Sl k.raw H T it v rs ∧ rs.length = xs.length ∧ rs[i.toNat]? = some (rd xs i, b) ∧
    ∀ {H' it' its' a' b'}, H.le H' → k.fam H' its' a' b' → Sl k.raw H' T it' v (rs.set i.toNat (a', b')) → SlF k H' T it' (A ++ (its' ++ B)) v (xs.set i.toNat a') := by
  obtain ⟨bs, h1, h2⟩ := h
  have hlt : i.toNat < xs.length := by have := hi.1; have := hi.2; omega
  have hl := h1.len
  obtain ⟨A, its, B, e, h3, h4⟩ := h1.at_ i.toNat hlt (by omega)
  have hr : rd xs i = xs[i.toNat] := by unfold rd; rw [List.getD_eq_getElem?_getD, List.getElem?_eq_getElem hlt]; rfl
  refine ⟨A, its, B, xs.zip bs, bs[i.toNat]'(by omega), e, by rw [hr]; exact h3, h2, by rw [List.length_zip]; omega, ?_, fun hle hf hs => ⟨bs.set i.toNat _, h4 hle hf, by rw [W0]; exact hs⟩⟩
  rw [List.getElem?_eq_getElem (by rw [List.length_zip]; omega), List.getElem_zip, hr]
theorem Sl.same {kd : Kd α} {T it v} {xs : List α} {n : Nat} {z x : α} (h : Sl kd H T it v xs) (hx : xs[n]? = some x) (hz : ∀ cs, kd.rep H cs x → kd.rep H cs z) : Sl kd H T it v (xs.set n z) := by
  rcases h with ⟨rfl, rfl, rfl⟩ | ⟨b, o, arr, c, rfl, rfl, h3, h4, h5⟩
  · simp at hx
  · refine .inr ⟨b, o, arr, c, rfl, by rw [List.length_set], by rw [List.length_set]; exact h3, h4, ?_⟩
    rw [List.length_set]
    generalize (arr.toList.drop o).take (xs.length * kd.sz) = inner at h5 ⊢
    clear h3 h4
    induction xs generalizing inner n with
    | nil => simp at hx
    | cons y ys ih =>
      obtain ⟨c1, r, e, h1, h2⟩ := h5
      cases n with
      | zero => simp at hx; subst hx; exact ⟨c1, r, e, hz _ h1, h2⟩
      | succ n => exact ⟨c1, r, e, h1, ih (by simpa using hx) r h2⟩
theorem FamR.freeze : ∀ {F : Items} {xs : List α} {bs : List β} {w : World} {L : Items} {inner : List Value} {H : Hp}, Own H w (F ++ L) → FamR k H F xs bs → Reps k.raw H inner (xs.zip bs) → ∃ H', H.le H' ∧ Own H' w L ∧ Reps k.ro H' inner xs
  | _, [], [], w, L, inner, H, o, h, hr => by rw [show _ = [] from h] at o; exact ⟨H, .refl _, o, hr⟩
  | _, a :: l1, b :: bs, w, L, inner, H, o, ⟨its, r, e, h1, h2⟩, ⟨c, r', e', h3, h4⟩ => by
    rw [e, List.append_assoc] at o
    obtain ⟨H1, le1, o1, p1⟩ := k.fr o h1 h3
    obtain ⟨H2, le2, o2, p2⟩ := FamR.freeze o1 (h2.mono le1) (h4.mono le1)
    exact ⟨H2, le1.trans le2, o2, c, r', e', k.ro.mono le2 p1, p2⟩
  | _, [], _ :: _, _, _, _, _, _, h, _ => h.elim
  | _, _ :: _, [], _, _, _, _, _, h, _ => h.elim
end
theorem SlF.shp {α β : Type} {k : Kf α β} {H : Hp} {T it F v} {xs : List α} (h : SlF k H T it F v xs) : Shp v xs := by
  obtain ⟨bs, h1, h2⟩ := h
  have hz : (xs.zip bs).length = xs.length := by rw [List.length_zip, h1.len]; omega
  rcases h2 with ⟨rfl, rfl, e⟩ | ⟨b, o, arr, c, rfl, rfl, h3, h4, h5⟩
  · rw [e] at hz
    exact ⟨none, 0, by rw [← hz]; rfl, .inl (List.eq_nil_of_length_eq_zero hz.symm)⟩
  · exact ⟨_, c, by rw [hz], .inr ⟨_, rfl⟩⟩
theorem Src.sg {α : Type} {k : Kd α} {H : Hp} {F L v xs} (h : Src (α := α) k H L v xs) : Src k H (F ++ L) v xs := by
  induction F with
  | nil => exact h
  | cons a F ih => exact ih.th
theorem Lies.sg {H : Hp} {F L a cs} (h : Lies H L a cs) : Lies H (F ++ L) a cs := by
  induction F with
  | nil => exact h
  | cons x F ih => exact ih.th
section
variable {P : Program} {f : FB} {n : Nat} {k : List Item} {σ : Nat → Value} {H : Hp} {L : Items} {R : Value → Hp → Items → Prop}
end

theorem Qaw {l : List Int} {n : Nat} (h : l.length = n) : (List.range n).map (fun i : Nat => rd l (i : Int)) = l := by
  subst h
  apply List.ext_getElem (by simp)
  intro i h1 h2
  simp only [List.getElem_map, List.getElem_range]
  unfold rd; rw [Int.toNat_natCast, List.getD_eq_getElem?_getD, List.getElem?_eq_getElem h2]; rfl
theorem W8 {α : Type} {xs ys : List α} {a : Int} (h : 0 ≤ a ∧ a ≤ (xs.length : Int)) : (cpy xs a ys).length = xs.length := by
  unfold cpy; simp; omega
theorem G2 {K : IntKind} {H : Hp} : ∀ {xs : List Int}, Reps (Kd.int K) H (xs.map (Value.int K)) xs
  | [] => rfl
  | x :: xs => ⟨[.int K x], xs.map (Value.int K), rfl, rfl, G2⟩
theorem GQ {K : IntKind} {H : Hp} : ∀ {xs : List Int} {cs : List Value}, Reps (Kd.int K) H cs xs → cs = xs.map (Value.int K)
  | [], _, h => h
  | x :: xs, _, ⟨c, r, e, h1, h2⟩ => by rw [e, show c = [.int K x] from h1, GQ h2]; rfl
theorem Nx {H : Hp} {b : Nat} {cs : List Value} {T : TypeId} {fz} (h : H.at_ b = some (.cells ⟨cs⟩ T fz)) : Cells H ⟨b, 0, none⟩ cs := ⟨rfl, _, T, fz, h, fun j c hj => by simpa using hj⟩
theorem Cells.sub' {H : Hp} {b : Nat} {cs : List Value} (h : Cells H ⟨b, 0, none⟩ cs) (off m : Nat) : Cells H ⟨b, off, none⟩ ((cs.drop off).take m) := by
  have := h.sub off m
  rwa [YQ rfl, Nat.zero_add] at this
theorem OH {H : Hp} {L : Items} {b : Nat} {cs : List Value} {T : TypeId} {fz} (h : H.at_ b = some (.cells ⟨cs⟩ T fz)) : Lies H L ⟨b, 0, none⟩ cs := (Nx h).lies
section
variable {P : Program} {f : FB} {n : Nat} {k : List Item} {σ : Nat → Value} {H : Hp} {L : Items} {R : Value → Hp → Items → Prop}
abbrev asl (b off m : Nat) : Value := .slice (some ⟨b, off, none⟩) m m
theorem Ml {t e : TypeId} {x : Operand} {lo hi : Option Operand} {b off m sz : Nat} {p q : Int} (ht : P.underlying t = some (.array m e)) (hsz : (P.info? e).map (·.size) = some sz) (hx : ev n σ x = .pointer (some ⟨b, off, none⟩)) (hlo : (lo = none ∧ p = 0) ∨ ∃ y K, lo = some y ∧ ev n σ y = .int K p) (hhi : (hi = none ∧ q = m) ∨ ∃ y K, hi = some y ∧ ev n σ y = .int K q) (hab : 0 ≤ p ∧ p ≤ q ∧ q ≤ (m : Int)) :
    OpA P n σ H L (.slice t x lo hi none) (Is (cutv sz (asl b off m) p q) H L) := fun o ho => Zj fun w hw => by
  obtain ⟨h0, hab, hb⟩ := hab
  have hrun : (execOp (ev n σ) o).run P w = .ok (.value (cutv sz (asl b off m) p q)) w := by
    unfold execOp; rw [ho]
    have hbounds : (Instr.sliceBounds false m m (lo.map (ev n σ)) (hi.map (ev n σ)) none).run P w = .ok (p.toNat, q.toNat, m) w := by
      have p1 : p ≤ ((q.toNat : Nat) : Int) := by omega
      have p2 : 0 ≤ q := by omega
      rcases hlo with ⟨rfl, rfl⟩ | ⟨y, K, rfl, e⟩ <;> rcases hhi with ⟨rfl, rfl⟩ | ⟨y', K', rfl, e'⟩ <;> simp [Instr.sliceBounds, Instr.sliceBound, asIntOf, h0, p2, *] <;> omega
    simp [hx, Instr.sliceAt, run_underlying ht, Instr.sureAddr, hbounds, run_sizeOf' hsz, cutv, asl]
    split <;> rfl
  exact ⟨_, w, H, L, .inl hrun, hw, rfl, rfl, rfl⟩
theorem WE {K : IntKind} {b off m : Nat} {cs : List Value} {xs : List Int} (h : Lies H L ⟨b, 0, none⟩ cs) (hx : (cs.drop off).take m = xs.map (Value.int K)) (hm : xs.length = m) : Src (Kd.int K) H L (asl b off m) xs := by
  refine ⟨some ⟨b, off, none⟩, m, by rw [hm], by omega, .inr ⟨⟨b, off, none⟩, _, rfl, rfl, ?_, G2⟩⟩
  rw [← hx]
  have := h.part off m
  rwa [YQ rfl, Nat.zero_add] at this
theorem Vf {K : IntKind} {b off m : Nat} {cs : List Value} {T : TypeId} {xs : List Int} (h : H.at_ b = some (.cells ⟨cs⟩ T (0, 0))) (hx : (cs.drop off).take m = xs.map (Value.int K)) (hm : xs.length = m) : Ro (Kd.int K) H (asl b off m) xs := by
  refine ⟨some ⟨b, off, none⟩, m, by rw [hm], by omega, .inr ⟨⟨b, off, none⟩, _, rfl, ?_, G2⟩⟩
  rw [← hx]
  exact (Nx h).sub' off m
theorem Oj {α : Type} {kd : Kd α} {v : Value} {xs : List α} {a b : Int} (hs : Ro kd H v xs) (hab : 0 ≤ a ∧ a ≤ b ∧ b ≤ (xs.length : Int)) : Ro kd H (cutv kd.sz v a b) (cut xs a b) := by
  obtain ⟨A, c, rfl, h2, h3⟩ := hs
  obtain ⟨h0, hab, hb⟩ := hab
  have hl : (cut xs a b).length = b.toNat - a.toNat := by unfold cut; simp; omega
  refine ⟨if c = a.toNat then A else A.map (·.add (a.toNat * kd.sz)), c - a.toNat, by rw [hl]; rfl, by rw [hl]; omega, ?_⟩
  by_cases hne : a.toNat = b.toNat
  · left; apply List.eq_nil_of_length_eq_zero; rw [hl]; omega
  · right
    rcases h3 with rfl | ⟨ad, inner, rfl, h4, h5⟩
    · simp at hb; omega
    · rw [if_neg (by omega)]
      refine ⟨_, _, rfl, h4.sub (a.toNat * kd.sz) ((b.toNat - a.toNat) * kd.sz), ?_⟩
      have h6 := (h5.drop a.toNat).take (b.toNat - a.toNat)
      have : cut xs a b = (xs.drop a.toNat).take (b.toNat - a.toNat) := by unfold cut; rw [List.drop_take]
      rw [this]; exact h6
theorem W3 {K : IntKind} {t tx e : TypeId} {x y : Operand} {v : Value} {b off m : Nat} {T : TypeId} {cs cs' : List Value} {xs ys zs : List Int} {p : Int} {L' : Items} (ht : P.underlying t = some (.slice e)) (hsz : (P.info? e).map (·.size) = some 1) (hx : ev n σ x = cutv 1 (asl b off m) p (m : Int)) (hy : ev n σ y = v) (hv : Src (Kd.int K) H L v ys) (hxs : (cs.drop off).take m = xs.map (Value.int K)) (hm : xs.length = m) (ha : 0 ≤ p ∧ p ≤ (m : Int)) (hz : zs = cpy xs p ys) (hcs : cs' = cs.take off ++ zs.map (Value.int K) ++ cs.drop (off + m))
    (hu : Upd L (some (b, .cells ⟨cs⟩ T (0, 0))) (some (b, .cells ⟨cs'⟩ T (0, 0))) L') :
    OpA P n σ H L (.call { callee := .builtin .copy, args := #[x, y], argTypes := #[t, tx] }) (fun v' H' L'' => v' = .int .i64 (min (ys.length : Int) (m - p)) ∧ H = H' ∧ L'' = L') := fun o ho => Zj fun w hw => by
  obtain ⟨ha0, ha1⟩ := ha
  obtain ⟨A, c', rfl, hc', hA⟩ := hv
  subst hm
  have hn : Nat.min ys.length (xs.length - p.toNat) ≤ ys.length := Nat.min_le_left _ _
  generalize hq : Nat.min ys.length (xs.length - p.toNat) = q at hn
  have hval : (min (ys.length : Int) (xs.length - p)) = (q : Int) := by
    rw [← hq]; show _ = ((min ys.length (xs.length - p.toNat) : Nat) : Int); omega
  have hq' : q = min ys.length (xs.length - p.toNat) := hq.symm
  have hnc : ∀ a, A = some a → ∀ j v, ((ys.take q).map (Value.int K))[j]? = some v → w.cell? (a.add j) = some v := by
    rcases hA with rfl | ⟨a, inner, rfl, _, h4, h5⟩
    · simp
    · intro a' e j v hj
      cases e
      rw [GQ h5] at h4
      refine h4 w hw j v ?_
      rw [← hj, List.map_take, List.getElem?_take]
      split
      · rfl
      · rename_i hlt
        rw [List.map_take, List.getElem?_take, if_neg hlt] at hj; cases hj
  have hnA : q * 1 = 0 ∨ A.isSome = true := by
    rcases hA with rfl | ⟨a, inner, rfl, _, h4, h5⟩
    · left; simp at hn; omega
    · right; rfl
  have hnl : ((ys.take q).map (Value.int K)).length = q * 1 := by simp; omega
  have hone : ∀ v ∈ (ys.take q).map (Value.int K), v.oneCell' = true := by
    intro v hv; obtain ⟨z, _, rfl⟩ := List.mem_map.1 hv; rfl
  have hcl : off + xs.length ≤ cs.length ∨ xs.length = 0 := by
    have := congrArg List.length hxs
    simp at this; omega
  have hoff : off + p.toNat + 0 + ((ys.take q).map (Value.int K)).length ≤ (⟨cs⟩ : Array Value).size ∨ xs.length = 0 := by
    rcases hcl with h | h
    · left; rw [hnl]; show _ ≤ cs.length; omega
    · exact .inr h
  have hb := (hw.has hu.has).2
  have hf : (Builtin.firstCells 1 q (.slice A ys.length c')).run P w = .ok ⟨(ys.take q).map (Value.int K)⟩ w := by
    have := Ji (P := P) (w := w) (size := 1) (m := q) (c := c') (A := A) hnl hnA hnc
    cases A <;> exact this
  have hbv : cutv 1 (asl b off xs.length) p (xs.length : Int) = .slice (some (if xs.length = p.toNat then ⟨b, off, none⟩ else ⟨b, off + p.toNat, none⟩)) (xs.length - p.toNat) (xs.length - p.toNat) := by
    simp only [cutv, asl, Int.toNat_natCast]
    split
    · rfl
    · simp only [Option.map_some]; rw [YQ rfl, Nat.mul_one]
  rw [hbv] at hx
  by_cases hca : xs.length = p.toNat
  · have hm0 : q = 0 := by rw [hq']; omega
    subst hm0
    rw [if_pos hca] at hx
    have hzz : zs = xs := by rw [hz]; unfold cpy; rw [← hca]; simp
    have hcc : cs' = cs := by
      rw [hcs, hzz, ← hxs, List.append_assoc]
      conv => rhs; rw [← List.take_append_drop off cs]
      congr 1
      rw [← List.drop_drop]; exact List.take_append_drop _ _
    subst hcc
    refine ⟨_, w, H, _, .inl ?_, hw.put hu rfl rfl rfl hb (fun q _ hq => rfl), by rw [hval], rfl, rfl⟩
    unfold execOp; rw [ho]
    simp at hf
    simp [hx, hy, resolve, invoke, builtin, Builtin.copy_, run_underlying ht, Builtin.lenOf, run_sizeOf' hsz, hq, hf, storeCells, goInt]
  · have hoff := hoff.resolve_right (by omega)
    have hcl := hcl.resolve_right (by omega)
    obtain ⟨w', h6, h7, h8, h9, h10, h11⟩ := Zu (P := P) (off := off + p.toNat) ((ys.take q).map (Value.int K)) 0 ⟨cs⟩ w hb hoff hone
    rw [if_neg hca] at hx
    refine ⟨_, w', H, _, .inl ?_, hw.put hu h7 h8 h9 ?_ fun c _ hc => h11 c hc, by rw [hval], rfl, rfl⟩
    · unfold execOp; rw [ho]
      rw [List.map_take] at h6 hf
      simp [hx, hy, resolve, invoke, builtin, Builtin.copy_, run_underlying ht, Builtin.lenOf, run_sizeOf' hsz, hq, hf, h6, goInt]
    · rw [h10]
      congr 3
      rw [hcs, hz, hnl]
      have e1 : cs = cs.take off ++ (xs.map (Value.int K) ++ cs.drop (off + xs.length)) := by
        conv => lhs; rw [← List.take_append_drop off cs]
        congr 1
        rw [← hxs, ← List.drop_drop]; exact (List.take_append_drop _ _).symm
      have l1 : (cs.take off).length = off := by simp; omega
      have e2 : cs.take (off + p.toNat + 0) = cs.take off ++ (xs.take p.toNat).map (Value.int K) := by
        conv => lhs; rw [e1]
        rw [List.take_append, l1, List.take_of_length_le (by rw [l1]; omega), show off + p.toNat + 0 - off = p.toNat by omega, List.take_append_of_le_length (by simp; omega), List.map_take]
      have e3 : cs.drop (off + p.toNat + 0 + q * 1) = (xs.drop (p.toNat + q)).map (Value.int K) ++ cs.drop (off + xs.length) := by
        conv => lhs; rw [e1]
        rw [List.drop_append, l1, List.drop_eq_nil_of_le (by rw [l1]; omega), List.nil_append, show off + p.toNat + 0 + q * 1 - off = p.toNat + q by omega, List.drop_append_of_le_length (by simp; omega), List.map_drop]
      rw [e2, e3]
      unfold cpy
      have e4 : ys.take (xs.length - p.toNat) = ys.take q := by
        rw [hq']
        rcases Nat.le_total ys.length (xs.length - p.toNat) with h | h
        · rw [Nat.min_eq_left h, List.take_of_length_le h, List.take_of_length_le (Nat.le_refl _)]
        · rw [Nat.min_eq_right h]
      have e5 : xs.drop (p.toNat + ys.length) = xs.drop (p.toNat + q) := by
        rw [hq']
        rcases Nat.le_total ys.length (xs.length - p.toNat) with h | h
        · rw [Nat.min_eq_left h]
        · rw [Nat.min_eq_right h, List.drop_eq_nil_of_le (by omega), List.drop_eq_nil_of_le (by omega)]
      rw [e4, e5]
      simp only [List.map_append, List.append_assoc]
end
def MpN {α β : Type} [DecidableEq α] (mk : Mk α β) (H : Hp) (T : TypeId) (it : Item') (v : Value) (m : List (α × β)) : Prop := (it = none ∧ v = .map none ∧ m = []) ∨ Mp mk H T it v m
theorem MpN.mono {α β : Type} [DecidableEq α] {mk : Mk α β} {H H' : Hp} {T it v m} (h : MpN mk H T it v m) (_ : H.le H') : MpN mk H' T it v m := h
theorem UO {α β : Type} [DecidableEq α] {mk : Mk α β} {H : Hp} {T it v m} (h : Mp mk H T it v m) : MpN mk H T it v m := .inr h
theorem MpN.cells {α β : Type} [DecidableEq α] {mk : Mk α β} {H : Hp} {T it v m} (h : MpN mk H T it v m) : v.cells = ⟨[v]⟩ := by
  rcases h with ⟨_, rfl, _⟩ | ⟨b, es, c, _, rfl, _⟩ <;> rfl
theorem MpN.one {α β : Type} [DecidableEq α] {mk : Mk α β} {H : Hp} {T it v m} (h : MpN mk H T it v m) : v.oneCell' = true := by
  rcases h with ⟨_, rfl, _⟩ | ⟨b, es, c, _, rfl, _⟩ <;> rfl
theorem Mp.cells {α β : Type} [DecidableEq α] {mk : Mk α β} {H : Hp} {T it v m} (h : Mp mk H T it v m) : v.cells = ⟨[v]⟩ := (UO h).cells
theorem Mp.one {α β : Type} [DecidableEq α] {mk : Mk α β} {H : Hp} {T it v m} (h : Mp mk H T it v m) : v.oneCell' = true := (UO h).one
section
variable {α β : Type} [DecidableEq α] {P : Program} {n : Nat} {σ : Nat → Value} {H : Hp} {L : Items}
end

def del {α : Type} (xs : List α) (i j : Int) : List α := xs.take i.toNat ++ xs.drop j.toNat ++ xs.drop (xs.length - (j.toNat - i.toNat))
section
variable {P : Program} {f : FB} {n : Nat} {k : List Item} {σ : Nat → Value} {H : Hp} {L : Items} {R : Value → Hp → Items → Prop}
end

structure FcM where
  p : Hp → Value → Option Items → (Nat → Option Items) → Prop
  deps : List Nat
  mono : ∀ H H' v it m m', H.le H' → (∀ j ∈ deps, m' j = m j) → p H v it m → p H' v it m'
def FcM.of (f : Fc) : FcM := ⟨fun H v it _ => f.p H v it, [], fun _ _ _ _ _ _ hle _ h => f.mono _ _ _ _ hle h⟩
section
variable {P : Program} {f : FB} {n : Nat} {k : List Item} {σ : Nat → Value} {H : Hp} {R : Value → Hp → Items → Prop}
variable {L L0 : Items} {al post pre : List Nat} {H' : Hp} {ops : Array Oper} {i : Nat} {op : Op} {m : Nat → Option Items} {Φ : Hp → Value → Option Items → (Nat → Option Items) → Prop}
end

section
variable {P : Program} {f : FB} {n : Nat} {k : List Item} {σ : Nat → Value} {H : Hp} {L : Items} {R : Value → Hp → Items → Prop}
theorem JB {g : FuncId} {ats : Array TypeId} {x y z : Operand} {a b c : Int} (hg : ExtOk P g add64Entry) (hx : ev n σ x = .int .u64 a) (hy : ev n σ y = .int .u64 b) (hz : ev n σ z = .int .u64 c) (hp : 0 ≤ a ∧ 0 ≤ b ∧ 0 ≤ c ∧ c ≤ 1) : OpA P n σ H L (.call { callee := .value (.func g), args := #[x, y, z], argTypes := ats }) (Is (.tuple ⟨[.int .u64 ((a + b + c) % 18446744073709551616), .int .u64 ((a + b + c) / 18446744073709551616)]⟩) H L) := GM fun o ho w hw => by
  obtain ⟨fn, h1, h2, h3, h4, h5⟩ := hg.ok
  have := run_callFunc_extern (P := P) h1 h2 h3 h4 h5 (args := #[.int .u64 a, .int .u64 b, .int .u64 c]) (w := w)
  rw [run_add64 a b c hp.1 hp.2.1 hp.2.2.1 hp.2.2.2] at this
  unfold execOp; rw [ho]
  simpa [resolve, Deferred.ofValue, invoke, hx, hy, hz, show ev n σ (.func g) = .func (.func g) #[] #[] from rfl, Result.andThen] using this
end

end Go.Proofs.YtkccpkccdbfomaaGreatDoorK

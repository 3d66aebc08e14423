import Derived.Laws.LoneSync
import Derived.MapKept
import Derived.Test.YtkccpkccdbfomaaGreatDoorGSSk8
namespace Go.Proofs.YtkccpkccdbfomaaGreatDoorK
open Go Go.RowKit
set_option linter.unusedVariables false
set_option linter.unusedSimpArgs false
section
variable {P : Program} {f : FuncId} {n : Nat} {k : List Item} {σ : Nat → Value} {H : Hp} {L : Items} {R : Value → Hp → Items → Prop}
theorem wM {ops : Array Oper} {i : Nat} {rest : List Nat} {d : Nat} {x : Operand} (v : Value) (hi : opAt ops i = some (.move x, some d, none)) (hx : ev n σ x = v)
    (hk : Wp P f n (.inRegion ops rest :: k) (upd σ d v) H L R) : Wp P f n (.inRegion ops (i :: rest) :: k) σ H L R := w_d hi (QR hx) hk
theorem wA {ops : Array Oper} {i : Nat} {rest : List Nat} {d : Nat} {x : Operand} (v : Value) (hi : opAt ops i = some (.assign x, some d, none)) (hx : ev n σ x = v)
    (hk : Wp P f n (.inRegion ops rest :: k) (upd σ d v) H L R) : Wp P f n (.inRegion ops (i :: rest) :: k) σ H L R := w_d hi (Oh hx) hk
theorem wL {ops : Array Oper} {i : Nat} {rest : List Nat} {d : Nat} {x : Operand} {t : TypeId} {agg : Bool} {sz b off : Nat} {cs : List Value} {T : TypeId} {fz} (v : Value) (ht : TyA P t agg sz) (hi : opAt ops i = some (.load t x, some d, none)) (hx : ev n σ x = .pointer (some ⟨b, off, none⟩)) (hm : Has L (some (b, .cells ⟨cs⟩ T fz))) (h1 : (Nat.beq ((cs.drop off).take sz).length sz && (agg || Nat.beq sz 1)) = true) (hv : vof agg ((cs.drop off).take sz) = v)
    (hk : Wp P f n (.inRegion ops rest :: k) (upd σ d v) H L R) : Wp P f n (.inRegion ops (i :: rest) :: k) σ H L R := w_d hi (Qq ht hx hm rfl ((Bool.and_eq_true _ _).mp h1).1 ((Bool.and_eq_true _ _).mp h1).2 hv) hk
theorem wR {id : Nat} {ops : Array Oper} {l : List Nat} {y : Code} (hl : List.range ops.size = l) (h : Wp P f n (.inRegion ops l :: .code y :: k) σ H L R) : Wp P f n (.code (.seq (.region id ops false) y) :: k) σ H L R := QX (QH hl h)
theorem wE {ops : Array Oper} {x y : Code} (h : Wp P f n (.code x :: .code y :: k) σ H L R) : Wp P f n (.inRegion ops [] :: .code (.seq x y) :: k) σ H L R := Qc (QX h)
theorem wQ {ops' : Array Oper} {id : Nat} {ops : Array Oper} {l : List Nat} {y : Code} (hl : List.range ops.size = l) (h : Wp P f n (.inRegion ops l :: .code y :: k) σ H L R) : Wp P f n (.inRegion ops' [] :: .code (.seq (.region id ops false) y) :: k) σ H L R := Qc (QX (QH hl h))
end
theorem bs {α β : Type} {x : Option α} {g : α → Option β} {r : β} (h : x.bind g = some r) : ∃ a, x = some a ∧ g a = some r := Option.bind_eq_some_iff.1 h
theorem sj {α : Type} {a b : α} (h : some a = some b) : a = b := Option.some.inj h
theorem oc {c : Value} {cs : List Value} (h : c.oneCell' = true) (t : cs.all (·.oneCell') = true) : (c :: cs).all (·.oneCell') = true := Vr h t
theorem oz : ([] : List Value).all (·.oneCell') = true := rfl
theorem dt {p : Prop} [Decidable p] (h : p) : decide p = true := decide_eq_true h
theorem df {p : Prop} [Decidable p] (h : ¬ p) : decide p = false := decide_eq_false h
abbrev cR (H : Hp) (L : Items) (O : Hp → Value → Prop) : Value → Hp → Items → Prop := fun v H' L' => L = L' ∧ H.le H' ∧ O H' v
abbrev fR (H0 : Hp) (L : Items) (O : Hp → Value → Prop) : Value → Hp → Items → Prop := fun v H' L' => (∃ p, L' = p ++ L) ∧ H0.le H' ∧ O H' v
abbrev kU32 : Kd Int := Kd.int .u32
abbrev kI64 : Kd Int := Kd.int .i64
abbrev kU8 : Kd Int := Kd.int .u8
theorem u1 {c v : Value} {l : List Value} : SetL (c :: l) 0 [v] (v :: l) := .here .done
theorem u2 {a b v w : Value} {l : List Value} : SetL (a :: b :: l) 0 [v, w] (v :: w :: l) := .here (.here .done)
theorem u4 {a b c d v w x y : Value} {l : List Value} : SetL (a :: b :: c :: d :: l) 0 [v, w, x, y] (v :: w :: x :: y :: l) := .here (.here (.here (.here .done)))
theorem dn {F : Nat → Hp → Value → Item' → (Nat → Item') → Prop} {H' : Hp} {m : Nat → Item'} {σ : Nat → Value} {K : (Nat → Value) → Prop} (h : K σ) : DepK F H' m [] σ K := h
abbrev pt (b : Nat) : Value := .pointer (some ⟨b, 0, none⟩)
abbrev po (b o : Nat) : Value := .pointer (some ⟨b, o, none⟩)
abbrev bx (b : Nat) (cs : List Value) (T : TypeId) : Item' := some (b, .cells ⟨cs⟩ T (0, 0))
theorem Has.h1 {c1 a : Item'} {l : Items} : Has (c1 :: a :: l) a := .there .here
theorem Upd.h1 {c1 a b : Item'} {l : Items} : Upd (c1 :: a :: l) a b (c1 :: b :: l) := .there .here
theorem Del.h1 {c1 a : Item'} {l : Items} : Del (c1 :: a :: l) (c1 :: l) := .there .here
theorem Has.h2 {c1 c2 a : Item'} {l : Items} : Has (c1 :: c2 :: a :: l) a := .there (.there .here)
theorem Upd.h2 {c1 c2 a b : Item'} {l : Items} : Upd (c1 :: c2 :: a :: l) a b (c1 :: c2 :: b :: l) := .there (.there .here)
theorem Del.h2 {c1 c2 a : Item'} {l : Items} : Del (c1 :: c2 :: a :: l) (c1 :: c2 :: l) := .there (.there .here)
theorem Has.h3 {c1 c2 c3 a : Item'} {l : Items} : Has (c1 :: c2 :: c3 :: a :: l) a := .there (.there (.there .here))
theorem Upd.h3 {c1 c2 c3 a b : Item'} {l : Items} : Upd (c1 :: c2 :: c3 :: a :: l) a b (c1 :: c2 :: c3 :: b :: l) := .there (.there (.there .here))
theorem Del.h3 {c1 c2 c3 a : Item'} {l : Items} : Del (c1 :: c2 :: c3 :: a :: l) (c1 :: c2 :: c3 :: l) := .there (.there (.there .here))
theorem Has.h4 {c1 c2 c3 c4 a : Item'} {l : Items} : Has (c1 :: c2 :: c3 :: c4 :: a :: l) a := .there (.there (.there (.there .here)))
theorem Upd.h4 {c1 c2 c3 c4 a b : Item'} {l : Items} : Upd (c1 :: c2 :: c3 :: c4 :: a :: l) a b (c1 :: c2 :: c3 :: c4 :: b :: l) := .there (.there (.there (.there .here)))
theorem Del.h4 {c1 c2 c3 c4 a : Item'} {l : Items} : Del (c1 :: c2 :: c3 :: c4 :: a :: l) (c1 :: c2 :: c3 :: c4 :: l) := .there (.there (.there (.there .here)))
theorem Has.h5 {c1 c2 c3 c4 c5 a : Item'} {l : Items} : Has (c1 :: c2 :: c3 :: c4 :: c5 :: a :: l) a := .there (.there (.there (.there (.there .here))))
theorem Upd.h5 {c1 c2 c3 c4 c5 a b : Item'} {l : Items} : Upd (c1 :: c2 :: c3 :: c4 :: c5 :: a :: l) a b (c1 :: c2 :: c3 :: c4 :: c5 :: b :: l) := .there (.there (.there (.there (.there .here))))
theorem Del.h5 {c1 c2 c3 c4 c5 a : Item'} {l : Items} : Del (c1 :: c2 :: c3 :: c4 :: c5 :: a :: l) (c1 :: c2 :: c3 :: c4 :: c5 :: l) := .there (.there (.there (.there (.there .here))))
theorem Has.h6 {c1 c2 c3 c4 c5 c6 a : Item'} {l : Items} : Has (c1 :: c2 :: c3 :: c4 :: c5 :: c6 :: a :: l) a := .there (.there (.there (.there (.there (.there .here)))))
theorem Upd.h6 {c1 c2 c3 c4 c5 c6 a b : Item'} {l : Items} : Upd (c1 :: c2 :: c3 :: c4 :: c5 :: c6 :: a :: l) a b (c1 :: c2 :: c3 :: c4 :: c5 :: c6 :: b :: l) := .there (.there (.there (.there (.there (.there .here)))))
theorem Del.h6 {c1 c2 c3 c4 c5 c6 a : Item'} {l : Items} : Del (c1 :: c2 :: c3 :: c4 :: c5 :: c6 :: a :: l) (c1 :: c2 :: c3 :: c4 :: c5 :: c6 :: l) := .there (.there (.there (.there (.there (.there .here)))))
theorem Has.h7 {c1 c2 c3 c4 c5 c6 c7 a : Item'} {l : Items} : Has (c1 :: c2 :: c3 :: c4 :: c5 :: c6 :: c7 :: a :: l) a := .there (.there (.there (.there (.there (.there (.there .here))))))
theorem Upd.h7 {c1 c2 c3 c4 c5 c6 c7 a b : Item'} {l : Items} : Upd (c1 :: c2 :: c3 :: c4 :: c5 :: c6 :: c7 :: a :: l) a b (c1 :: c2 :: c3 :: c4 :: c5 :: c6 :: c7 :: b :: l) := .there (.there (.there (.there (.there (.there (.there .here))))))
theorem Del.h7 {c1 c2 c3 c4 c5 c6 c7 a : Item'} {l : Items} : Del (c1 :: c2 :: c3 :: c4 :: c5 :: c6 :: c7 :: a :: l) (c1 :: c2 :: c3 :: c4 :: c5 :: c6 :: c7 :: l) := .there (.there (.there (.there (.there (.there (.there .here))))))
theorem Has.h8 {c1 c2 c3 c4 c5 c6 c7 c8 a : Item'} {l : Items} : Has (c1 :: c2 :: c3 :: c4 :: c5 :: c6 :: c7 :: c8 :: a :: l) a := .there (.there (.there (.there (.there (.there (.there (.there .here)))))))
theorem Upd.h8 {c1 c2 c3 c4 c5 c6 c7 c8 a b : Item'} {l : Items} : Upd (c1 :: c2 :: c3 :: c4 :: c5 :: c6 :: c7 :: c8 :: a :: l) a b (c1 :: c2 :: c3 :: c4 :: c5 :: c6 :: c7 :: c8 :: b :: l) := .there (.there (.there (.there (.there (.there (.there (.there .here)))))))
theorem Del.h8 {c1 c2 c3 c4 c5 c6 c7 c8 a : Item'} {l : Items} : Del (c1 :: c2 :: c3 :: c4 :: c5 :: c6 :: c7 :: c8 :: a :: l) (c1 :: c2 :: c3 :: c4 :: c5 :: c6 :: c7 :: c8 :: l) := .there (.there (.there (.there (.there (.there (.there (.there .here)))))))
theorem Has.h9 {c1 c2 c3 c4 c5 c6 c7 c8 c9 a : Item'} {l : Items} : Has (c1 :: c2 :: c3 :: c4 :: c5 :: c6 :: c7 :: c8 :: c9 :: a :: l) a := .there (.there (.there (.there (.there (.there (.there (.there (.there .here))))))))
theorem Upd.h9 {c1 c2 c3 c4 c5 c6 c7 c8 c9 a b : Item'} {l : Items} : Upd (c1 :: c2 :: c3 :: c4 :: c5 :: c6 :: c7 :: c8 :: c9 :: a :: l) a b (c1 :: c2 :: c3 :: c4 :: c5 :: c6 :: c7 :: c8 :: c9 :: b :: l) := .there (.there (.there (.there (.there (.there (.there (.there (.there .here))))))))
theorem Del.h9 {c1 c2 c3 c4 c5 c6 c7 c8 c9 a : Item'} {l : Items} : Del (c1 :: c2 :: c3 :: c4 :: c5 :: c6 :: c7 :: c8 :: c9 :: a :: l) (c1 :: c2 :: c3 :: c4 :: c5 :: c6 :: c7 :: c8 :: c9 :: l) := .there (.there (.there (.there (.there (.there (.there (.there (.there .here))))))))
theorem Has.h10 {c1 c2 c3 c4 c5 c6 c7 c8 c9 c10 a : Item'} {l : Items} : Has (c1 :: c2 :: c3 :: c4 :: c5 :: c6 :: c7 :: c8 :: c9 :: c10 :: a :: l) a := .there (.there (.there (.there (.there (.there (.there (.there (.there (.there .here)))))))))
theorem Upd.h10 {c1 c2 c3 c4 c5 c6 c7 c8 c9 c10 a b : Item'} {l : Items} : Upd (c1 :: c2 :: c3 :: c4 :: c5 :: c6 :: c7 :: c8 :: c9 :: c10 :: a :: l) a b (c1 :: c2 :: c3 :: c4 :: c5 :: c6 :: c7 :: c8 :: c9 :: c10 :: b :: l) := .there (.there (.there (.there (.there (.there (.there (.there (.there (.there .here)))))))))
theorem Del.h10 {c1 c2 c3 c4 c5 c6 c7 c8 c9 c10 a : Item'} {l : Items} : Del (c1 :: c2 :: c3 :: c4 :: c5 :: c6 :: c7 :: c8 :: c9 :: c10 :: a :: l) (c1 :: c2 :: c3 :: c4 :: c5 :: c6 :: c7 :: c8 :: c9 :: c10 :: l) := .there (.there (.there (.there (.there (.there (.there (.there (.there (.there .here)))))))))
theorem Has.h11 {c1 c2 c3 c4 c5 c6 c7 c8 c9 c10 c11 a : Item'} {l : Items} : Has (c1 :: c2 :: c3 :: c4 :: c5 :: c6 :: c7 :: c8 :: c9 :: c10 :: c11 :: a :: l) a := .there (.there (.there (.there (.there (.there (.there (.there (.there (.there (.there .here))))))))))
theorem Upd.h11 {c1 c2 c3 c4 c5 c6 c7 c8 c9 c10 c11 a b : Item'} {l : Items} : Upd (c1 :: c2 :: c3 :: c4 :: c5 :: c6 :: c7 :: c8 :: c9 :: c10 :: c11 :: a :: l) a b (c1 :: c2 :: c3 :: c4 :: c5 :: c6 :: c7 :: c8 :: c9 :: c10 :: c11 :: b :: l) := .there (.there (.there (.there (.there (.there (.there (.there (.there (.there (.there .here))))))))))
theorem Del.h11 {c1 c2 c3 c4 c5 c6 c7 c8 c9 c10 c11 a : Item'} {l : Items} : Del (c1 :: c2 :: c3 :: c4 :: c5 :: c6 :: c7 :: c8 :: c9 :: c10 :: c11 :: a :: l) (c1 :: c2 :: c3 :: c4 :: c5 :: c6 :: c7 :: c8 :: c9 :: c10 :: c11 :: l) := .there (.there (.there (.there (.there (.there (.there (.there (.there (.there (.there .here))))))))))
theorem Has.h12 {c1 c2 c3 c4 c5 c6 c7 c8 c9 c10 c11 c12 a : Item'} {l : Items} : Has (c1 :: c2 :: c3 :: c4 :: c5 :: c6 :: c7 :: c8 :: c9 :: c10 :: c11 :: c12 :: a :: l) a := .there (.there (.there (.there (.there (.there (.there (.there (.there (.there (.there (.there .here)))))))))))
theorem Upd.h12 {c1 c2 c3 c4 c5 c6 c7 c8 c9 c10 c11 c12 a b : Item'} {l : Items} : Upd (c1 :: c2 :: c3 :: c4 :: c5 :: c6 :: c7 :: c8 :: c9 :: c10 :: c11 :: c12 :: a :: l) a b (c1 :: c2 :: c3 :: c4 :: c5 :: c6 :: c7 :: c8 :: c9 :: c10 :: c11 :: c12 :: b :: l) := .there (.there (.there (.there (.there (.there (.there (.there (.there (.there (.there (.there .here)))))))))))
theorem Del.h12 {c1 c2 c3 c4 c5 c6 c7 c8 c9 c10 c11 c12 a : Item'} {l : Items} : Del (c1 :: c2 :: c3 :: c4 :: c5 :: c6 :: c7 :: c8 :: c9 :: c10 :: c11 :: c12 :: a :: l) (c1 :: c2 :: c3 :: c4 :: c5 :: c6 :: c7 :: c8 :: c9 :: c10 :: c11 :: c12 :: l) := .there (.there (.there (.there (.there (.there (.there (.there (.there (.there (.there (.there .here)))))))))))
theorem Has.h13 {c1 c2 c3 c4 c5 c6 c7 c8 c9 c10 c11 c12 c13 a : Item'} {l : Items} : Has (c1 :: c2 :: c3 :: c4 :: c5 :: c6 :: c7 :: c8 :: c9 :: c10 :: c11 :: c12 :: c13 :: a :: l) a := .there (.there (.there (.there (.there (.there (.there (.there (.there (.there (.there (.there (.there .here))))))))))))
theorem Upd.h13 {c1 c2 c3 c4 c5 c6 c7 c8 c9 c10 c11 c12 c13 a b : Item'} {l : Items} : Upd (c1 :: c2 :: c3 :: c4 :: c5 :: c6 :: c7 :: c8 :: c9 :: c10 :: c11 :: c12 :: c13 :: a :: l) a b (c1 :: c2 :: c3 :: c4 :: c5 :: c6 :: c7 :: c8 :: c9 :: c10 :: c11 :: c12 :: c13 :: b :: l) := .there (.there (.there (.there (.there (.there (.there (.there (.there (.there (.there (.there (.there .here))))))))))))
theorem Del.h13 {c1 c2 c3 c4 c5 c6 c7 c8 c9 c10 c11 c12 c13 a : Item'} {l : Items} : Del (c1 :: c2 :: c3 :: c4 :: c5 :: c6 :: c7 :: c8 :: c9 :: c10 :: c11 :: c12 :: c13 :: a :: l) (c1 :: c2 :: c3 :: c4 :: c5 :: c6 :: c7 :: c8 :: c9 :: c10 :: c11 :: c12 :: c13 :: l) := .there (.there (.there (.there (.there (.there (.there (.there (.there (.there (.there (.there (.there .here))))))))))))
theorem Has.h14 {c1 c2 c3 c4 c5 c6 c7 c8 c9 c10 c11 c12 c13 c14 a : Item'} {l : Items} : Has (c1 :: c2 :: c3 :: c4 :: c5 :: c6 :: c7 :: c8 :: c9 :: c10 :: c11 :: c12 :: c13 :: c14 :: a :: l) a := .there (.there (.there (.there (.there (.there (.there (.there (.there (.there (.there (.there (.there (.there .here)))))))))))))
theorem Upd.h14 {c1 c2 c3 c4 c5 c6 c7 c8 c9 c10 c11 c12 c13 c14 a b : Item'} {l : Items} : Upd (c1 :: c2 :: c3 :: c4 :: c5 :: c6 :: c7 :: c8 :: c9 :: c10 :: c11 :: c12 :: c13 :: c14 :: a :: l) a b (c1 :: c2 :: c3 :: c4 :: c5 :: c6 :: c7 :: c8 :: c9 :: c10 :: c11 :: c12 :: c13 :: c14 :: b :: l) := .there (.there (.there (.there (.there (.there (.there (.there (.there (.there (.there (.there (.there (.there .here)))))))))))))
theorem Del.h14 {c1 c2 c3 c4 c5 c6 c7 c8 c9 c10 c11 c12 c13 c14 a : Item'} {l : Items} : Del (c1 :: c2 :: c3 :: c4 :: c5 :: c6 :: c7 :: c8 :: c9 :: c10 :: c11 :: c12 :: c13 :: c14 :: a :: l) (c1 :: c2 :: c3 :: c4 :: c5 :: c6 :: c7 :: c8 :: c9 :: c10 :: c11 :: c12 :: c13 :: c14 :: l) := .there (.there (.there (.there (.there (.there (.there (.there (.there (.there (.there (.there (.there (.there .here)))))))))))))
theorem Has.h15 {c1 c2 c3 c4 c5 c6 c7 c8 c9 c10 c11 c12 c13 c14 c15 a : Item'} {l : Items} : Has (c1 :: c2 :: c3 :: c4 :: c5 :: c6 :: c7 :: c8 :: c9 :: c10 :: c11 :: c12 :: c13 :: c14 :: c15 :: a :: l) a := .there (.there (.there (.there (.there (.there (.there (.there (.there (.there (.there (.there (.there (.there (.there .here))))))))))))))
theorem Upd.h15 {c1 c2 c3 c4 c5 c6 c7 c8 c9 c10 c11 c12 c13 c14 c15 a b : Item'} {l : Items} : Upd (c1 :: c2 :: c3 :: c4 :: c5 :: c6 :: c7 :: c8 :: c9 :: c10 :: c11 :: c12 :: c13 :: c14 :: c15 :: a :: l) a b (c1 :: c2 :: c3 :: c4 :: c5 :: c6 :: c7 :: c8 :: c9 :: c10 :: c11 :: c12 :: c13 :: c14 :: c15 :: b :: l) := .there (.there (.there (.there (.there (.there (.there (.there (.there (.there (.there (.there (.there (.there (.there .here))))))))))))))
theorem Del.h15 {c1 c2 c3 c4 c5 c6 c7 c8 c9 c10 c11 c12 c13 c14 c15 a : Item'} {l : Items} : Del (c1 :: c2 :: c3 :: c4 :: c5 :: c6 :: c7 :: c8 :: c9 :: c10 :: c11 :: c12 :: c13 :: c14 :: c15 :: a :: l) (c1 :: c2 :: c3 :: c4 :: c5 :: c6 :: c7 :: c8 :: c9 :: c10 :: c11 :: c12 :: c13 :: c14 :: c15 :: l) := .there (.there (.there (.there (.there (.there (.there (.there (.there (.there (.there (.there (.there (.there (.there .here))))))))))))))
theorem Has.h16 {c1 c2 c3 c4 c5 c6 c7 c8 c9 c10 c11 c12 c13 c14 c15 c16 a : Item'} {l : Items} : Has (c1 :: c2 :: c3 :: c4 :: c5 :: c6 :: c7 :: c8 :: c9 :: c10 :: c11 :: c12 :: c13 :: c14 :: c15 :: c16 :: a :: l) a := .there (.there (.there (.there (.there (.there (.there (.there (.there (.there (.there (.there (.there (.there (.there (.there .here)))))))))))))))
theorem Upd.h16 {c1 c2 c3 c4 c5 c6 c7 c8 c9 c10 c11 c12 c13 c14 c15 c16 a b : Item'} {l : Items} : Upd (c1 :: c2 :: c3 :: c4 :: c5 :: c6 :: c7 :: c8 :: c9 :: c10 :: c11 :: c12 :: c13 :: c14 :: c15 :: c16 :: a :: l) a b (c1 :: c2 :: c3 :: c4 :: c5 :: c6 :: c7 :: c8 :: c9 :: c10 :: c11 :: c12 :: c13 :: c14 :: c15 :: c16 :: b :: l) := .there (.there (.there (.there (.there (.there (.there (.there (.there (.there (.there (.there (.there (.there (.there (.there .here)))))))))))))))
theorem Del.h16 {c1 c2 c3 c4 c5 c6 c7 c8 c9 c10 c11 c12 c13 c14 c15 c16 a : Item'} {l : Items} : Del (c1 :: c2 :: c3 :: c4 :: c5 :: c6 :: c7 :: c8 :: c9 :: c10 :: c11 :: c12 :: c13 :: c14 :: c15 :: c16 :: a :: l) (c1 :: c2 :: c3 :: c4 :: c5 :: c6 :: c7 :: c8 :: c9 :: c10 :: c11 :: c12 :: c13 :: c14 :: c15 :: c16 :: l) := .there (.there (.there (.there (.there (.there (.there (.there (.there (.there (.there (.there (.there (.there (.there (.there .here)))))))))))))))
theorem bK {α β : Type} {x : Option α} {g : α → Option β} {r : β} {C : Prop} (h : x.bind g = some r) (k : ∀ a, x = some a → g a = some r → C) : C := let ⟨a, h1, h2⟩ := bs h; k a h1 h2
theorem rK {α : Type} {p : Prop} [Decidable p] {x : Option α} {r : α} {C : Prop} (h : (if p then x else none) = some r) (k : p → x = some r → C) : C := let ⟨h1, h2⟩ := rq h; k h1 h2
section
variable {P : Program} {f : FuncId} {n : Nat} {k : List Item} {σ : Nat → Value} {H : Hp} {L : Items} {R : Value → Hp → Items → Prop}
theorem wS {ops : Array Oper} {i : Nat} {rest : List Nat} {t : TypeId} {x y : Operand} {b off sz : Nat} {cs cs' vs : List Value} {T : TypeId} (v : Value) {L' : Items} (hsz : (P.info? t).map (·.size) = some sz) (hi : opAt ops i = some (.store t x y, none, none)) (hx : ev n σ x = .pointer (some ⟨b, off, none⟩)) (hy : ev n σ y = v) (hv : v.cells = ⟨vs⟩) (hl : Nat.beq vs.length sz = true) (h1 : vs.all (·.oneCell') = true)
    (hu : Upd L (some (b, .cells ⟨cs⟩ T (0, 0))) (some (b, .cells ⟨cs'⟩ T (0, 0))) L') (hs : SetL cs off vs cs') (hk : Wp P f n (.inRegion ops rest :: k) σ H L' R) : Wp P f n (.inRegion ops (i :: rest) :: k) σ H L R :=
  w_a0 hi (YW hsz hx hy hv hl h1 hu hs) (by rintro _ _ _ ⟨rfl, rfl, rfl⟩; exact hk)
theorem wB {ops : Array Oper} {i : Nat} {rest : List Nat} {t : TypeId} {d : Nat} {x : Operand} (v : Value) {cs : List Value} (hi : opAt ops i = some (.box t x, some d, none)) (hx : ev n σ x = v) (hv : v.cells = ⟨cs⟩) (hk : ∀ b, Wp P f n (.inRegion ops rest :: k) (upd σ d (.pointer (some ⟨b, 0, none⟩))) H (some (b, .cells ⟨cs⟩ t (0, 0)) :: L) R) : Wp P f n (.inRegion ops (i :: rest) :: k) σ H L R :=
  w_a hi (W4 hx hv) (by rintro _ _ _ ⟨b, rfl, rfl, rfl⟩; exact hk b)
theorem wN {ops : Array Oper} {i : Nat} {rest : List Nat} {t : TypeId} {d : Nat} {z : Value} {cs : List Value} (hz : (P.info? t).bind (·.zero) = some z) (hi : opAt ops i = some (.alloc t, some d, none)) (hv : z.cells = ⟨cs⟩) (hk : ∀ b, Wp P f n (.inRegion ops rest :: k) (upd σ d (.pointer (some ⟨b, 0, none⟩))) H (some (b, .cells ⟨cs⟩ t (0, 0)) :: L) R) : Wp P f n (.inRegion ops (i :: rest) :: k) σ H L R :=
  w_a hi (YJ hz hv) (by rintro _ _ _ ⟨b, rfl, rfl, rfl⟩; exact hk b)
end

def cutv (sz : Nat) (v : Value) (a b : Int) : Value := match v with
  | .slice A _ c => .slice (if c = a.toNat then A else A.map (·.add (a.toNat * sz))) (b.toNat - a.toNat) (c - a.toNat)
  | v => v
section
variable {P : Program} {f : FuncId} {n : Nat} {k : List Item} {σ : Nat → Value} {H : Hp} {L : Items} {R : Value → Hp → Items → Prop}
theorem WF {α : Type} {kd : Kd α} {t : TypeId} {x : Operand} {lo hi : Option Operand} {v : Value} {e : TypeId} {xs : List α} {a b : Int} (ht : P.underlying t = some (.slice e)) (hsz : (P.info? e).map (·.size) = some kd.sz) (hx : ev n σ x = v) (hs : Src kd H L v xs) (hlo : (lo = none ∧ a = 0) ∨ ∃ y K, lo = some y ∧ ev n σ y = .int K a) (hhi : (hi = none ∧ b = xs.length) ∨ ∃ y K, hi = some y ∧ ev n σ y = .int K b) (hab : 0 ≤ a ∧ a ≤ b ∧ b ≤ (xs.length : Int)) :
    OpA P n σ H L (.slice t x lo hi none) (Is (cutv kd.sz v a b) H L) := fun o ho => ZP fun w hw => by
  obtain ⟨A, c, rfl, h2, h3⟩ := hs
  obtain ⟨h0, hab, hb⟩ := hab
  have hrun : (execOp (ev n σ) o).run P w = .ok (.value (.slice (if c = a.toNat then A else A.map (·.add (a.toNat * kd.sz))) (b.toNat - a.toNat) (c - a.toNat))) w := by
    unfold execOp; rw [ho]
    have hbounds : (Instr.sliceBounds true xs.length c (lo.map (ev n σ)) (hi.map (ev n σ)) none).run P w = .ok (a.toNat, b.toNat, c) w := by
      have p1 : a ≤ ((b.toNat : Nat) : Int) := by omega
      have p2 : 0 ≤ b := by omega
      have p3 : b ≤ (c : Int) := by omega
      rcases hlo with ⟨rfl, rfl⟩ | ⟨y, K, rfl, e⟩ <;> rcases hhi with ⟨rfl, rfl⟩ | ⟨y', K', rfl, e'⟩ <;> simp [Instr.sliceBounds, Instr.sliceBound, asIntOf, h0, p2, p3, *] <;> omega
    simp [hx, Instr.sliceAt, run_underlying ht, Instr.slice, hbounds, run_sizeOf' hsz]
  exact ⟨_, w, H, L, .inl hrun, hw, rfl, rfl, rfl⟩
theorem NQ {α : Type} {kd : Kd α} {v : Value} {xs : List α} {a b : Int} (hs : Src kd H L v xs) (hab : 0 ≤ a ∧ a ≤ b ∧ b ≤ (xs.length : Int)) : Src kd H L (cutv kd.sz v a b) (cut xs a b) := by
  obtain ⟨A, c, rfl, h2, h3⟩ := hs
  obtain ⟨h0, hab, hb⟩ := hab
  have hl : (cut xs a b).length = b.toNat - a.toNat := by unfold cut; simp; omega
  refine ⟨if c = a.toNat then A else A.map (·.add (a.toNat * kd.sz)), c - a.toNat, by rw [hl]; rfl, by rw [hl]; omega, ?_⟩
  by_cases hne : a.toNat = b.toNat
  · left; apply List.eq_nil_of_length_eq_zero; rw [hl]; omega
  · right
    rcases h3 with rfl | ⟨ad, inner, rfl, hsp, h4, h5⟩
    · simp at hb; omega
    · rw [if_neg (by omega)]
      refine ⟨_, _, rfl, ?_, h4.part (a.toNat * kd.sz) ((b.toNat - a.toNat) * kd.sz), ?_⟩
      · unfold Addr.add; split
        · exact hsp
        · rfl
      · have h6 := (h5.drop a.toNat).take (b.toNat - a.toNat)
        have : cut xs a b = (xs.drop a.toNat).take (b.toNat - a.toNat) := by unfold cut; rw [List.drop_take]
        rw [this]; exact h6
end

theorem Lies.mono {H H' : Hp} {L a cs} (h : Lies H L a cs) (hle : H.le H') : Lies H' L a cs := fun w hw => h w (hw.lower hle)
theorem Lies.th {H : Hp} {it : Item'} {L a cs} (h : Lies H L a cs) : Lies H (it :: L) a cs := fun w hw => h w hw.tail
section
variable {P : Program} {f : FuncId} {n : Nat} {k : List Item} {σ : Nat → Value} {H : Hp} {L : Items} {R : Value → Hp → Items → Prop}
end

structure Fc where
  p : Hp → Value → Option Items → Prop
  mono : ∀ H H' v it, H.le H' → p H v it → p H' v it
def Fc.is (v : Value) : Fc := ⟨fun _ v' it => v = v' ∧ it = none, fun _ _ _ _ _ h => h⟩
def Fc.of (P : Hp → Value → Prop) (hm : ∀ {H H' : Hp} {v : Value}, H.le H' → P H v → P H' v) : Fc := ⟨fun H v it => P H v ∧ it = none, fun _ _ _ _ hle h => ⟨hm hle h.1, h.2⟩⟩
def Fc.ro {α : Type} (k : Kd α) (xs : List α) : Fc := .of (fun H v => Ro k H v xs) fun hle h => h.mono hle
section
variable {P : Program} {f : FuncId} {n : Nat} {k : List Item} {σ : Nat → Value} {H : Hp} {R : Value → Hp → Items → Prop}
variable {L : Items}
end

structure ExtOk (P : Program) (g : FuncId) (e : Array Value → Sem Value) : Prop where
  ok : ∃ fn, P.funcs[g]? = some fn ∧ (fn.name == "runtime.NumGoroutine") = false ∧ fn.body.isNone = true ∧ Extern.findNext fn = none ∧ Extern.find fn = some e
section
variable {P : Program} {f : FuncId} {n : Nat} {k : List Item} {σ : Nat → Value} {H : Hp} {L : Items} {R : Value → Hp → Items → Prop}
end

section
variable {P : Program} {f : FuncId} {n : Nat} {k : List Item} {σ : Nat → Value} {H : Hp} {L : Items} {R : Value → Hp → Items → Prop}
end

structure Mk (α β : Type) [DecidableEq α] where
  key : α → Value
  val : β → Value
  kk : TypeDesc
  same : ∀ a b, Instr.sameNow kk (key a) (key b) = some (decide (a = b))
  bits : ∀ a, Instr.sameBits 10000 (key a) (key a) = true
  chk : ∀ (P : Program) (em : Bool) (kt : TypeId) (a : α) (w : World), P.underlying kt = some kk → (Instr.checkKey em 10000 kt (key a)).run P w = .ok () w
section
variable {α β : Type} [DecidableEq α]
def Mp (mk : Mk α β) (H : Hp) (T : TypeId) (it : Item') (v : Value) (m : List (α × β)) : Prop := ∃ b es clock, it = some (b, .map es clock) ∧ v = .map (some b) ∧ es.toList.map (fun e => (e.key, e.val)) = m.map fun p => (mk.key p.1, mk.val p.2)
theorem Mp.mono {mk : Mk α β} {H H' : Hp} {T it v m} (h : Mp mk H T it v m) (_ : H.le H') : Mp mk H' T it v m := h
variable {P : Program} {f : FuncId} {n : Nat} {k : List Item} {σ : Nat → Value} {H : Hp} {L : Items} {R : Value → Hp → Items → Prop}
end
section
variable {P : Program} {f : FuncId} {n : Nat} {k : List Item} {σ : Nat → Value} {H : Hp} {L : Items} {R : Value → Hp → Items → Prop}
end
section
variable {P : Program} {f : FuncId} {H : Hp} {L : Items}
end
section
variable {P : Program} {n : Nat} {σ : Nat → Value}
theorem s_kg {M' : Type} {ops : Array Oper} {i : Nat} {op : Op} {d : Option Nat} {j dj : Nat} {want g : Bool} {Ψ : Value → Hp → Items → Prop} {H' : Hp} {L : Items} {Λ : M' → Items} {Φ : Hp → Value → M' → (Nat → M') → Prop} {M : M' → Nat → M'} (it0 : M') (hi : opAt ops i = some (op, d, some (j, want))) (hj : (nth ops.toList j).bind (·.dst) = some dj) (hd : Nat.blt dj n = true) (hw : wants (σ dj) want = g)
    (h : g = true → OpA P n σ H' L op Ψ) (hL : L = Λ it0) (hF : g = true → ∀ v H'' L'', Ψ v H'' L'' → L'' = L ∧ H'.le H'' ∧ Φ H'' v it0 (M it0)) (hF0 : g = false → Φ H' undef it0 (M it0)) :
    GopA P n ops i σ H' L fun v H'' L'' => ∃ it, L'' = Λ it ∧ H'.le H'' ∧ Φ H'' v it (M it) := by
  unfold GopA; rw [hi]; subst hw
  exact ⟨dj, hj, hd, fun e o ho => (h e o ho).mono fun v H'' L'' x => ⟨it0, (hF e v H'' L'' x).1.trans hL, (hF e v H'' L'' x).2.1, (hF e v H'' L'' x).2.2⟩, fun e => ⟨it0, hL, .refl _, hF0 e⟩⟩
end
theorem pcons {n : Nat} {σ : Nat → Value} {i : Nat} {x : Operand} {v : Value} {l : List (Nat × Operand)} {l' : List (Nat × Value)} (h : ev n σ x = v) (t : l.map (fun p => (p.1, ev n σ p.2)) = l') : ((i, x) :: l).map (fun p => (p.1, ev n σ p.2)) = (i, v) :: l' := by rw [List.map_cons, h, t]

end Go.Proofs.YtkccpkccdbfomaaGreatDoorK

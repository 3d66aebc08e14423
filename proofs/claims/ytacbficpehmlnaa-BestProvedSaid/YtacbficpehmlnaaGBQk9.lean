/- Short names, for texts that must be short. -/
import Derived.Test.YtacbficpehmlnaaGBQk8
namespace Go.Proofs.YtacbficpehmlnaaK
open Go Go.RowKit
set_option linter.unusedVariables false
section
variable {P : Program} {f : FuncId} {n : Nat} {k : List Item} {σ : Nat → Value} {H : Hp} {L : Items} {R : Value → Hp → Items → Prop}
theorem wM {ops : Array Oper} {i : Nat} {rest : List Nat} {d : Nat} {x : Operand} (v : Value) (hi : opAt ops i = some (.move x, some d, none)) (hx : ev n σ x = v)
    (hk : Wp P f n (.inRegion ops rest :: k) (upd σ d v) H L R) : Wp P f n (.inRegion ops (i :: rest) :: k) σ H L R := w_d hi (d_move hx) hk
theorem wA {ops : Array Oper} {i : Nat} {rest : List Nat} {d : Nat} {x : Operand} (v : Value) (hi : opAt ops i = some (.assign x, some d, none)) (hx : ev n σ x = v)
    (hk : Wp P f n (.inRegion ops rest :: k) (upd σ d v) H L R) : Wp P f n (.inRegion ops (i :: rest) :: k) σ H L R := w_d hi (d_assign hx) hk
theorem wL {ops : Array Oper} {i : Nat} {rest : List Nat} {d : Nat} {x : Operand} {t : TypeId} {agg : Bool} {sz b off : Nat} {cs : List Value} {T : TypeId} {fz} (v : Value) (ht : TyA P t agg sz) (hi : opAt ops i = some (.load t x, some d, none)) (hx : ev n σ x = .pointer (some ⟨b, off, none⟩)) (hm : Has L (some (b, .cells ⟨cs⟩ T fz))) (h1 : (Nat.beq ((cs.drop off).take sz).length sz && (agg || Nat.beq sz 1)) = true) (hv : vof agg ((cs.drop off).take sz) = v)
    (hk : Wp P f n (.inRegion ops rest :: k) (upd σ d v) H L R) : Wp P f n (.inRegion ops (i :: rest) :: k) σ H L R := w_d hi (d_loado ht hx hm rfl ((Bool.and_eq_true _ _).mp h1).1 ((Bool.and_eq_true _ _).mp h1).2 hv) hk
theorem wR {id : Nat} {ops : Array Oper} {l : List Nat} {y : Code} (hl : List.range ops.size = l) (h : Wp P f n (.inRegion ops l :: .code y :: k) σ H L R) : Wp P f n (.code (.seq (.region id ops false) y) :: k) σ H L R := w_seq (w_region hl h)
theorem wE {ops : Array Oper} {x y : Code} (h : Wp P f n (.code x :: .code y :: k) σ H L R) : Wp P f n (.inRegion ops [] :: .code (.seq x y) :: k) σ H L R := w_done (w_seq h)
theorem wQ {ops' : Array Oper} {id : Nat} {ops : Array Oper} {l : List Nat} {y : Code} (hl : List.range ops.size = l) (h : Wp P f n (.inRegion ops l :: .code y :: k) σ H L R) : Wp P f n (.inRegion ops' [] :: .code (.seq (.region id ops false) y) :: k) σ H L R := w_done (w_seq (w_region hl h))
end
theorem bs {α β : Type} {x : Option α} {g : α → Option β} {r : β} (h : x.bind g = some r) : ∃ a, x = some a ∧ g a = some r := Option.bind_eq_some_iff.1 h
theorem sj {α : Type} {a b : α} (h : some a = some b) : a = b := Option.some.inj h
theorem oc {c : Value} {cs : List Value} (h : c.oneCell' = true) (t : cs.all (·.oneCell') = true) : (c :: cs).all (·.oneCell') = true := one_cons h t
theorem oz : ([] : List Value).all (·.oneCell') = true := rfl
theorem dt {p : Prop} [Decidable p] (h : p) : decide p = true := decide_eq_true h
theorem df {p : Prop} [Decidable p] (h : ¬ p) : decide p = false := decide_eq_false h
abbrev cR (H : Hp) (L : Items) (O : Hp → Value → Prop) : Value → Hp → Items → Prop := fun v H' L' => L = L' ∧ H.le H' ∧ O H' v
abbrev fR (H0 : Hp) (L : Items) (O : Hp → Value → Prop) : Value → Hp → Items → Prop := fun v H' L' => (∃ p, L' = p ++ L) ∧ H0.le H' ∧ O H' v
abbrev kI64 : Kd Int := Kd.int .i64
theorem u1 {c v : Value} {l : List Value} : SetL (c :: l) 0 [v] (v :: l) := .here .done
theorem u2 {a b v w : Value} {l : List Value} : SetL (a :: b :: l) 0 [v, w] (v :: w :: l) := .here (.here .done)
theorem u4 {a b c d v w x y : Value} {l : List Value} : SetL (a :: b :: c :: d :: l) 0 [v, w, x, y] (v :: w :: x :: y :: l) := .here (.here (.here (.here .done)))
theorem dn {F : Nat → Hp → Value → Item' → (Nat → Item') → Prop} {H' : Hp} {m : Nat → Item'} {σ : Nat → Value} {K : (Nat → Value) → Prop} (h : K σ) : DepK F H' m [] σ K := h
abbrev bx (b : Nat) (cs : List Value) (T : TypeId) : Item' := some (b, .cells ⟨cs⟩ T (0, 0))
theorem Has.h1 {c1 a : Item'} {l : Items} : Has (c1 :: a :: l) a := .there .here
theorem Upd.h1 {c1 a b : Item'} {l : Items} : Upd (c1 :: a :: l) a b (c1 :: b :: l) := .there .here
theorem Del.h1 {c1 a : Item'} {l : Items} : Del (c1 :: a :: l) (c1 :: l) := .there .here
theorem Has.h2 {c1 c2 a : Item'} {l : Items} : Has (c1 :: c2 :: a :: l) a := .there (.there .here)
theorem Upd.h2 {c1 c2 a b : Item'} {l : Items} : Upd (c1 :: c2 :: a :: l) a b (c1 :: c2 :: b :: l) := .there (.there .here)
theorem Del.h2 {c1 c2 a : Item'} {l : Items} : Del (c1 :: c2 :: a :: l) (c1 :: c2 :: l) := .there (.there .here)
theorem Has.h3 {c1 c2 c3 a : Item'} {l : Items} : Has (c1 :: c2 :: c3 :: a :: l) a := .there (.there (.there .here))
theorem Upd.h3 {c1 c2 c3 a b : Item'} {l : Items} : Upd (c1 :: c2 :: c3 :: a :: l) a b (c1 :: c2 :: c3 :: b :: l) := .there (.there (.there .here))
theorem Del.h3 {c1 c2 c3 a : Item'} {l : Items} : Del (c1 :: c2 :: c3 :: a :: l) (c1 :: c2 :: c3 :: l) := .there (.there (.there .here))
theorem Has.h4 {c1 c2 c3 c4 a : Item'} {l : Items} : Has (c1 :: c2 :: c3 :: c4 :: a :: l) a := .there (.there (.there (.there .here)))
theorem Upd.h4 {c1 c2 c3 c4 a b : Item'} {l : Items} : Upd (c1 :: c2 :: c3 :: c4 :: a :: l) a b (c1 :: c2 :: c3 :: c4 :: b :: l) := .there (.there (.there (.there .here)))
theorem Del.h4 {c1 c2 c3 c4 a : Item'} {l : Items} : Del (c1 :: c2 :: c3 :: c4 :: a :: l) (c1 :: c2 :: c3 :: c4 :: l) := .there (.there (.there (.there .here)))
theorem Has.h5 {c1 c2 c3 c4 c5 a : Item'} {l : Items} : Has (c1 :: c2 :: c3 :: c4 :: c5 :: a :: l) a := .there (.there (.there (.there (.there .here))))
theorem Upd.h5 {c1 c2 c3 c4 c5 a b : Item'} {l : Items} : Upd (c1 :: c2 :: c3 :: c4 :: c5 :: a :: l) a b (c1 :: c2 :: c3 :: c4 :: c5 :: b :: l) := .there (.there (.there (.there (.there .here))))
theorem Del.h5 {c1 c2 c3 c4 c5 a : Item'} {l : Items} : Del (c1 :: c2 :: c3 :: c4 :: c5 :: a :: l) (c1 :: c2 :: c3 :: c4 :: c5 :: l) := .there (.there (.there (.there (.there .here))))
theorem Has.h6 {c1 c2 c3 c4 c5 c6 a : Item'} {l : Items} : Has (c1 :: c2 :: c3 :: c4 :: c5 :: c6 :: a :: l) a := .there (.there (.there (.there (.there (.there .here)))))
theorem Upd.h6 {c1 c2 c3 c4 c5 c6 a b : Item'} {l : Items} : Upd (c1 :: c2 :: c3 :: c4 :: c5 :: c6 :: a :: l) a b (c1 :: c2 :: c3 :: c4 :: c5 :: c6 :: b :: l) := .there (.there (.there (.there (.there (.there .here)))))
theorem Del.h6 {c1 c2 c3 c4 c5 c6 a : Item'} {l : Items} : Del (c1 :: c2 :: c3 :: c4 :: c5 :: c6 :: a :: l) (c1 :: c2 :: c3 :: c4 :: c5 :: c6 :: l) := .there (.there (.there (.there (.there (.there .here)))))
theorem Has.h7 {c1 c2 c3 c4 c5 c6 c7 a : Item'} {l : Items} : Has (c1 :: c2 :: c3 :: c4 :: c5 :: c6 :: c7 :: a :: l) a := .there (.there (.there (.there (.there (.there (.there .here))))))
theorem Upd.h7 {c1 c2 c3 c4 c5 c6 c7 a b : Item'} {l : Items} : Upd (c1 :: c2 :: c3 :: c4 :: c5 :: c6 :: c7 :: a :: l) a b (c1 :: c2 :: c3 :: c4 :: c5 :: c6 :: c7 :: b :: l) := .there (.there (.there (.there (.there (.there (.there .here))))))
theorem Del.h7 {c1 c2 c3 c4 c5 c6 c7 a : Item'} {l : Items} : Del (c1 :: c2 :: c3 :: c4 :: c5 :: c6 :: c7 :: a :: l) (c1 :: c2 :: c3 :: c4 :: c5 :: c6 :: c7 :: l) := .there (.there (.there (.there (.there (.there (.there .here))))))
theorem Has.h8 {c1 c2 c3 c4 c5 c6 c7 c8 a : Item'} {l : Items} : Has (c1 :: c2 :: c3 :: c4 :: c5 :: c6 :: c7 :: c8 :: a :: l) a := .there (.there (.there (.there (.there (.there (.there (.there .here)))))))
theorem Upd.h8 {c1 c2 c3 c4 c5 c6 c7 c8 a b : Item'} {l : Items} : Upd (c1 :: c2 :: c3 :: c4 :: c5 :: c6 :: c7 :: c8 :: a :: l) a b (c1 :: c2 :: c3 :: c4 :: c5 :: c6 :: c7 :: c8 :: b :: l) := .there (.there (.there (.there (.there (.there (.there (.there .here)))))))
theorem Del.h8 {c1 c2 c3 c4 c5 c6 c7 c8 a : Item'} {l : Items} : Del (c1 :: c2 :: c3 :: c4 :: c5 :: c6 :: c7 :: c8 :: a :: l) (c1 :: c2 :: c3 :: c4 :: c5 :: c6 :: c7 :: c8 :: l) := .there (.there (.there (.there (.there (.there (.there (.there .here)))))))
theorem Has.h9 {c1 c2 c3 c4 c5 c6 c7 c8 c9 a : Item'} {l : Items} : Has (c1 :: c2 :: c3 :: c4 :: c5 :: c6 :: c7 :: c8 :: c9 :: a :: l) a := .there (.there (.there (.there (.there (.there (.there (.there (.there .here))))))))
theorem Upd.h9 {c1 c2 c3 c4 c5 c6 c7 c8 c9 a b : Item'} {l : Items} : Upd (c1 :: c2 :: c3 :: c4 :: c5 :: c6 :: c7 :: c8 :: c9 :: a :: l) a b (c1 :: c2 :: c3 :: c4 :: c5 :: c6 :: c7 :: c8 :: c9 :: b :: l) := .there (.there (.there (.there (.there (.there (.there (.there (.there .here))))))))
theorem Del.h9 {c1 c2 c3 c4 c5 c6 c7 c8 c9 a : Item'} {l : Items} : Del (c1 :: c2 :: c3 :: c4 :: c5 :: c6 :: c7 :: c8 :: c9 :: a :: l) (c1 :: c2 :: c3 :: c4 :: c5 :: c6 :: c7 :: c8 :: c9 :: l) := .there (.there (.there (.there (.there (.there (.there (.there (.there .here))))))))
theorem Has.h10 {c1 c2 c3 c4 c5 c6 c7 c8 c9 c10 a : Item'} {l : Items} : Has (c1 :: c2 :: c3 :: c4 :: c5 :: c6 :: c7 :: c8 :: c9 :: c10 :: a :: l) a := .there (.there (.there (.there (.there (.there (.there (.there (.there (.there .here)))))))))
theorem Upd.h10 {c1 c2 c3 c4 c5 c6 c7 c8 c9 c10 a b : Item'} {l : Items} : Upd (c1 :: c2 :: c3 :: c4 :: c5 :: c6 :: c7 :: c8 :: c9 :: c10 :: a :: l) a b (c1 :: c2 :: c3 :: c4 :: c5 :: c6 :: c7 :: c8 :: c9 :: c10 :: b :: l) := .there (.there (.there (.there (.there (.there (.there (.there (.there (.there .here)))))))))
theorem Del.h10 {c1 c2 c3 c4 c5 c6 c7 c8 c9 c10 a : Item'} {l : Items} : Del (c1 :: c2 :: c3 :: c4 :: c5 :: c6 :: c7 :: c8 :: c9 :: c10 :: a :: l) (c1 :: c2 :: c3 :: c4 :: c5 :: c6 :: c7 :: c8 :: c9 :: c10 :: l) := .there (.there (.there (.there (.there (.there (.there (.there (.there (.there .here)))))))))
theorem Has.h11 {c1 c2 c3 c4 c5 c6 c7 c8 c9 c10 c11 a : Item'} {l : Items} : Has (c1 :: c2 :: c3 :: c4 :: c5 :: c6 :: c7 :: c8 :: c9 :: c10 :: c11 :: a :: l) a := .there (.there (.there (.there (.there (.there (.there (.there (.there (.there (.there .here))))))))))
theorem Upd.h11 {c1 c2 c3 c4 c5 c6 c7 c8 c9 c10 c11 a b : Item'} {l : Items} : Upd (c1 :: c2 :: c3 :: c4 :: c5 :: c6 :: c7 :: c8 :: c9 :: c10 :: c11 :: a :: l) a b (c1 :: c2 :: c3 :: c4 :: c5 :: c6 :: c7 :: c8 :: c9 :: c10 :: c11 :: b :: l) := .there (.there (.there (.there (.there (.there (.there (.there (.there (.there (.there .here))))))))))
theorem Del.h11 {c1 c2 c3 c4 c5 c6 c7 c8 c9 c10 c11 a : Item'} {l : Items} : Del (c1 :: c2 :: c3 :: c4 :: c5 :: c6 :: c7 :: c8 :: c9 :: c10 :: c11 :: a :: l) (c1 :: c2 :: c3 :: c4 :: c5 :: c6 :: c7 :: c8 :: c9 :: c10 :: c11 :: l) := .there (.there (.there (.there (.there (.there (.there (.there (.there (.there (.there .here))))))))))
theorem Has.h12 {c1 c2 c3 c4 c5 c6 c7 c8 c9 c10 c11 c12 a : Item'} {l : Items} : Has (c1 :: c2 :: c3 :: c4 :: c5 :: c6 :: c7 :: c8 :: c9 :: c10 :: c11 :: c12 :: a :: l) a := .there (.there (.there (.there (.there (.there (.there (.there (.there (.there (.there (.there .here)))))))))))
theorem Upd.h12 {c1 c2 c3 c4 c5 c6 c7 c8 c9 c10 c11 c12 a b : Item'} {l : Items} : Upd (c1 :: c2 :: c3 :: c4 :: c5 :: c6 :: c7 :: c8 :: c9 :: c10 :: c11 :: c12 :: a :: l) a b (c1 :: c2 :: c3 :: c4 :: c5 :: c6 :: c7 :: c8 :: c9 :: c10 :: c11 :: c12 :: b :: l) := .there (.there (.there (.there (.there (.there (.there (.there (.there (.there (.there (.there .here)))))))))))
theorem Del.h12 {c1 c2 c3 c4 c5 c6 c7 c8 c9 c10 c11 c12 a : Item'} {l : Items} : Del (c1 :: c2 :: c3 :: c4 :: c5 :: c6 :: c7 :: c8 :: c9 :: c10 :: c11 :: c12 :: a :: l) (c1 :: c2 :: c3 :: c4 :: c5 :: c6 :: c7 :: c8 :: c9 :: c10 :: c11 :: c12 :: l) := .there (.there (.there (.there (.there (.there (.there (.there (.there (.there (.there (.there .here)))))))))))
theorem Has.h13 {c1 c2 c3 c4 c5 c6 c7 c8 c9 c10 c11 c12 c13 a : Item'} {l : Items} : Has (c1 :: c2 :: c3 :: c4 :: c5 :: c6 :: c7 :: c8 :: c9 :: c10 :: c11 :: c12 :: c13 :: a :: l) a := .there (.there (.there (.there (.there (.there (.there (.there (.there (.there (.there (.there (.there .here))))))))))))
theorem Upd.h13 {c1 c2 c3 c4 c5 c6 c7 c8 c9 c10 c11 c12 c13 a b : Item'} {l : Items} : Upd (c1 :: c2 :: c3 :: c4 :: c5 :: c6 :: c7 :: c8 :: c9 :: c10 :: c11 :: c12 :: c13 :: a :: l) a b (c1 :: c2 :: c3 :: c4 :: c5 :: c6 :: c7 :: c8 :: c9 :: c10 :: c11 :: c12 :: c13 :: b :: l) := .there (.there (.there (.there (.there (.there (.there (.there (.there (.there (.there (.there (.there .here))))))))))))
theorem Del.h13 {c1 c2 c3 c4 c5 c6 c7 c8 c9 c10 c11 c12 c13 a : Item'} {l : Items} : Del (c1 :: c2 :: c3 :: c4 :: c5 :: c6 :: c7 :: c8 :: c9 :: c10 :: c11 :: c12 :: c13 :: a :: l) (c1 :: c2 :: c3 :: c4 :: c5 :: c6 :: c7 :: c8 :: c9 :: c10 :: c11 :: c12 :: c13 :: l) := .there (.there (.there (.there (.there (.there (.there (.there (.there (.there (.there (.there (.there .here))))))))))))
theorem Has.h14 {c1 c2 c3 c4 c5 c6 c7 c8 c9 c10 c11 c12 c13 c14 a : Item'} {l : Items} : Has (c1 :: c2 :: c3 :: c4 :: c5 :: c6 :: c7 :: c8 :: c9 :: c10 :: c11 :: c12 :: c13 :: c14 :: a :: l) a := .there (.there (.there (.there (.there (.there (.there (.there (.there (.there (.there (.there (.there (.there .here)))))))))))))
theorem Upd.h14 {c1 c2 c3 c4 c5 c6 c7 c8 c9 c10 c11 c12 c13 c14 a b : Item'} {l : Items} : Upd (c1 :: c2 :: c3 :: c4 :: c5 :: c6 :: c7 :: c8 :: c9 :: c10 :: c11 :: c12 :: c13 :: c14 :: a :: l) a b (c1 :: c2 :: c3 :: c4 :: c5 :: c6 :: c7 :: c8 :: c9 :: c10 :: c11 :: c12 :: c13 :: c14 :: b :: l) := .there (.there (.there (.there (.there (.there (.there (.there (.there (.there (.there (.there (.there (.there .here)))))))))))))
theorem Del.h14 {c1 c2 c3 c4 c5 c6 c7 c8 c9 c10 c11 c12 c13 c14 a : Item'} {l : Items} : Del (c1 :: c2 :: c3 :: c4 :: c5 :: c6 :: c7 :: c8 :: c9 :: c10 :: c11 :: c12 :: c13 :: c14 :: a :: l) (c1 :: c2 :: c3 :: c4 :: c5 :: c6 :: c7 :: c8 :: c9 :: c10 :: c11 :: c12 :: c13 :: c14 :: l) := .there (.there (.there (.there (.there (.there (.there (.there (.there (.there (.there (.there (.there (.there .here)))))))))))))
theorem Has.h15 {c1 c2 c3 c4 c5 c6 c7 c8 c9 c10 c11 c12 c13 c14 c15 a : Item'} {l : Items} : Has (c1 :: c2 :: c3 :: c4 :: c5 :: c6 :: c7 :: c8 :: c9 :: c10 :: c11 :: c12 :: c13 :: c14 :: c15 :: a :: l) a := .there (.there (.there (.there (.there (.there (.there (.there (.there (.there (.there (.there (.there (.there (.there .here))))))))))))))
theorem Upd.h15 {c1 c2 c3 c4 c5 c6 c7 c8 c9 c10 c11 c12 c13 c14 c15 a b : Item'} {l : Items} : Upd (c1 :: c2 :: c3 :: c4 :: c5 :: c6 :: c7 :: c8 :: c9 :: c10 :: c11 :: c12 :: c13 :: c14 :: c15 :: a :: l) a b (c1 :: c2 :: c3 :: c4 :: c5 :: c6 :: c7 :: c8 :: c9 :: c10 :: c11 :: c12 :: c13 :: c14 :: c15 :: b :: l) := .there (.there (.there (.there (.there (.there (.there (.there (.there (.there (.there (.there (.there (.there (.there .here))))))))))))))
theorem Del.h15 {c1 c2 c3 c4 c5 c6 c7 c8 c9 c10 c11 c12 c13 c14 c15 a : Item'} {l : Items} : Del (c1 :: c2 :: c3 :: c4 :: c5 :: c6 :: c7 :: c8 :: c9 :: c10 :: c11 :: c12 :: c13 :: c14 :: c15 :: a :: l) (c1 :: c2 :: c3 :: c4 :: c5 :: c6 :: c7 :: c8 :: c9 :: c10 :: c11 :: c12 :: c13 :: c14 :: c15 :: l) := .there (.there (.there (.there (.there (.there (.there (.there (.there (.there (.there (.there (.there (.there (.there .here))))))))))))))
theorem Has.h16 {c1 c2 c3 c4 c5 c6 c7 c8 c9 c10 c11 c12 c13 c14 c15 c16 a : Item'} {l : Items} : Has (c1 :: c2 :: c3 :: c4 :: c5 :: c6 :: c7 :: c8 :: c9 :: c10 :: c11 :: c12 :: c13 :: c14 :: c15 :: c16 :: a :: l) a := .there (.there (.there (.there (.there (.there (.there (.there (.there (.there (.there (.there (.there (.there (.there (.there .here)))))))))))))))
theorem Upd.h16 {c1 c2 c3 c4 c5 c6 c7 c8 c9 c10 c11 c12 c13 c14 c15 c16 a b : Item'} {l : Items} : Upd (c1 :: c2 :: c3 :: c4 :: c5 :: c6 :: c7 :: c8 :: c9 :: c10 :: c11 :: c12 :: c13 :: c14 :: c15 :: c16 :: a :: l) a b (c1 :: c2 :: c3 :: c4 :: c5 :: c6 :: c7 :: c8 :: c9 :: c10 :: c11 :: c12 :: c13 :: c14 :: c15 :: c16 :: b :: l) := .there (.there (.there (.there (.there (.there (.there (.there (.there (.there (.there (.there (.there (.there (.there (.there .here)))))))))))))))
theorem Del.h16 {c1 c2 c3 c4 c5 c6 c7 c8 c9 c10 c11 c12 c13 c14 c15 c16 a : Item'} {l : Items} : Del (c1 :: c2 :: c3 :: c4 :: c5 :: c6 :: c7 :: c8 :: c9 :: c10 :: c11 :: c12 :: c13 :: c14 :: c15 :: c16 :: a :: l) (c1 :: c2 :: c3 :: c4 :: c5 :: c6 :: c7 :: c8 :: c9 :: c10 :: c11 :: c12 :: c13 :: c14 :: c15 :: c16 :: l) := .there (.there (.there (.there (.there (.there (.there (.there (.there (.there (.there (.there (.there (.there (.there (.there .here)))))))))))))))
section
variable {P : Program} {f : FuncId} {n : Nat} {k : List Item} {σ : Nat → Value} {H : Hp} {L : Items} {R : Value → Hp → Items → Prop}
end
end Go.Proofs.YtacbficpehmlnaaK

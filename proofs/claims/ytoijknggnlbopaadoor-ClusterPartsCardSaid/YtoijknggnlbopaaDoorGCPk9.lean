/- Short names, for texts that must be short. -/
import Derived.Test.YtoijknggnlbopaaDoorGCPk8
namespace Go.Proofs.YtoijknggnlbopaaDoorK
open Go Go.RowKit
set_option linter.unusedVariables false
section
variable {P : Program} {f : FB} {n : Nat} {k : List Item} {σ : Nat → Value} {H : Hp} {L : Items} {R : Value → Hp → Items → Prop}
end
theorem bs {α β : Type} {x : Option α} {g : α → Option β} {r : β} (h : x.bind g = some r) : ∃ a, x = some a ∧ g a = some r := Option.bind_eq_some_iff.1 h
theorem df {p : Prop} [Decidable p] (h : ¬ p) : decide p = false := decide_eq_false h
theorem Has.h1 {c1 a : Item'} {l : Items} : Has (c1 :: a :: l) a := .there .here
theorem Upd.h1 {c1 a b : Item'} {l : Items} : Upd (c1 :: a :: l) a b (c1 :: b :: l) := .there .here
theorem Del.h1 {c1 a : Item'} {l : Items} : Del (c1 :: a :: l) (c1 :: l) := .there .here
theorem Has.h2 {c1 c2 a : Item'} {l : Items} : Has (c1 :: c2 :: a :: l) a := .there (.there .here)
theorem Upd.h2 {c1 c2 a b : Item'} {l : Items} : Upd (c1 :: c2 :: a :: l) a b (c1 :: c2 :: b :: l) := .there (.there .here)
theorem Del.h2 {c1 c2 a : Item'} {l : Items} : Del (c1 :: c2 :: a :: l) (c1 :: c2 :: l) := .there (.there .here)
theorem Has.h3 {c1 c2 c3 a : Item'} {l : Items} : Has (c1 :: c2 :: c3 :: a :: l) a := .there (.there (.there .here))
theorem Upd.h3 {c1 c2 c3 a b : Item'} {l : Items} : Upd (c1 :: c2 :: c3 :: a :: l) a b (c1 :: c2 :: c3 :: b :: l) := .there (.there (.there .here))
theorem Del.h3 {c1 c2 c3 a : Item'} {l : Items} : Del (c1 :: c2 :: c3 :: a :: l) (c1 :: c2 :: c3 :: l) := .there (.there (.there .here))
theorem Has.h4 {c1 c2 c3 c4 a : Item'} {l : Items} : Has (c1 :: c2 :: c3 :: c4 :: a :: l) a := .there (.there (.there (.there .here)))
theorem Upd.h4 {c1 c2 c3 c4 a b : Item'} {l : Items} : Upd (c1 :: c2 :: c3 :: c4 :: a :: l) a b (c1 :: c2 :: c3 :: c4 :: b :: l) := .there (.there (.there (.there .here)))
theorem Del.h4 {c1 c2 c3 c4 a : Item'} {l : Items} : Del (c1 :: c2 :: c3 :: c4 :: a :: l) (c1 :: c2 :: c3 :: c4 :: l) := .there (.there (.there (.there .here)))
theorem Has.h5 {c1 c2 c3 c4 c5 a : Item'} {l : Items} : Has (c1 :: c2 :: c3 :: c4 :: c5 :: a :: l) a := .there (.there (.there (.there (.there .here))))
theorem Upd.h5 {c1 c2 c3 c4 c5 a b : Item'} {l : Items} : Upd (c1 :: c2 :: c3 :: c4 :: c5 :: a :: l) a b (c1 :: c2 :: c3 :: c4 :: c5 :: b :: l) := .there (.there (.there (.there (.there .here))))
theorem Del.h5 {c1 c2 c3 c4 c5 a : Item'} {l : Items} : Del (c1 :: c2 :: c3 :: c4 :: c5 :: a :: l) (c1 :: c2 :: c3 :: c4 :: c5 :: l) := .there (.there (.there (.there (.there .here))))
theorem Has.h6 {c1 c2 c3 c4 c5 c6 a : Item'} {l : Items} : Has (c1 :: c2 :: c3 :: c4 :: c5 :: c6 :: a :: l) a := .there (.there (.there (.there (.there (.there .here)))))
theorem Upd.h6 {c1 c2 c3 c4 c5 c6 a b : Item'} {l : Items} : Upd (c1 :: c2 :: c3 :: c4 :: c5 :: c6 :: a :: l) a b (c1 :: c2 :: c3 :: c4 :: c5 :: c6 :: b :: l) := .there (.there (.there (.there (.there (.there .here)))))
theorem Del.h6 {c1 c2 c3 c4 c5 c6 a : Item'} {l : Items} : Del (c1 :: c2 :: c3 :: c4 :: c5 :: c6 :: a :: l) (c1 :: c2 :: c3 :: c4 :: c5 :: c6 :: l) := .there (.there (.there (.there (.there (.there .here)))))
theorem Has.h7 {c1 c2 c3 c4 c5 c6 c7 a : Item'} {l : Items} : Has (c1 :: c2 :: c3 :: c4 :: c5 :: c6 :: c7 :: a :: l) a := .there (.there (.there (.there (.there (.there (.there .here))))))
theorem Upd.h7 {c1 c2 c3 c4 c5 c6 c7 a b : Item'} {l : Items} : Upd (c1 :: c2 :: c3 :: c4 :: c5 :: c6 :: c7 :: a :: l) a b (c1 :: c2 :: c3 :: c4 :: c5 :: c6 :: c7 :: b :: l) := .there (.there (.there (.there (.there (.there (.there .here))))))
theorem Del.h7 {c1 c2 c3 c4 c5 c6 c7 a : Item'} {l : Items} : Del (c1 :: c2 :: c3 :: c4 :: c5 :: c6 :: c7 :: a :: l) (c1 :: c2 :: c3 :: c4 :: c5 :: c6 :: c7 :: l) := .there (.there (.there (.there (.there (.there (.there .here))))))
theorem Has.h8 {c1 c2 c3 c4 c5 c6 c7 c8 a : Item'} {l : Items} : Has (c1 :: c2 :: c3 :: c4 :: c5 :: c6 :: c7 :: c8 :: a :: l) a := .there (.there (.there (.there (.there (.there (.there (.there .here)))))))
theorem Upd.h8 {c1 c2 c3 c4 c5 c6 c7 c8 a b : Item'} {l : Items} : Upd (c1 :: c2 :: c3 :: c4 :: c5 :: c6 :: c7 :: c8 :: a :: l) a b (c1 :: c2 :: c3 :: c4 :: c5 :: c6 :: c7 :: c8 :: b :: l) := .there (.there (.there (.there (.there (.there (.there (.there .here)))))))
theorem Del.h8 {c1 c2 c3 c4 c5 c6 c7 c8 a : Item'} {l : Items} : Del (c1 :: c2 :: c3 :: c4 :: c5 :: c6 :: c7 :: c8 :: a :: l) (c1 :: c2 :: c3 :: c4 :: c5 :: c6 :: c7 :: c8 :: l) := .there (.there (.there (.there (.there (.there (.there (.there .here)))))))
theorem Has.h9 {c1 c2 c3 c4 c5 c6 c7 c8 c9 a : Item'} {l : Items} : Has (c1 :: c2 :: c3 :: c4 :: c5 :: c6 :: c7 :: c8 :: c9 :: a :: l) a := .there (.there (.there (.there (.there (.there (.there (.there (.there .here))))))))
theorem Upd.h9 {c1 c2 c3 c4 c5 c6 c7 c8 c9 a b : Item'} {l : Items} : Upd (c1 :: c2 :: c3 :: c4 :: c5 :: c6 :: c7 :: c8 :: c9 :: a :: l) a b (c1 :: c2 :: c3 :: c4 :: c5 :: c6 :: c7 :: c8 :: c9 :: b :: l) := .there (.there (.there (.there (.there (.there (.there (.there (.there .here))))))))
theorem Del.h9 {c1 c2 c3 c4 c5 c6 c7 c8 c9 a : Item'} {l : Items} : Del (c1 :: c2 :: c3 :: c4 :: c5 :: c6 :: c7 :: c8 :: c9 :: a :: l) (c1 :: c2 :: c3 :: c4 :: c5 :: c6 :: c7 :: c8 :: c9 :: l) := .there (.there (.there (.there (.there (.there (.there (.there (.there .here))))))))
theorem Has.h10 {c1 c2 c3 c4 c5 c6 c7 c8 c9 c10 a : Item'} {l : Items} : Has (c1 :: c2 :: c3 :: c4 :: c5 :: c6 :: c7 :: c8 :: c9 :: c10 :: a :: l) a := .there (.there (.there (.there (.there (.there (.there (.there (.there (.there .here)))))))))
theorem Upd.h10 {c1 c2 c3 c4 c5 c6 c7 c8 c9 c10 a b : Item'} {l : Items} : Upd (c1 :: c2 :: c3 :: c4 :: c5 :: c6 :: c7 :: c8 :: c9 :: c10 :: a :: l) a b (c1 :: c2 :: c3 :: c4 :: c5 :: c6 :: c7 :: c8 :: c9 :: c10 :: b :: l) := .there (.there (.there (.there (.there (.there (.there (.there (.there (.there .here)))))))))
theorem Del.h10 {c1 c2 c3 c4 c5 c6 c7 c8 c9 c10 a : Item'} {l : Items} : Del (c1 :: c2 :: c3 :: c4 :: c5 :: c6 :: c7 :: c8 :: c9 :: c10 :: a :: l) (c1 :: c2 :: c3 :: c4 :: c5 :: c6 :: c7 :: c8 :: c9 :: c10 :: l) := .there (.there (.there (.there (.there (.there (.there (.there (.there (.there .here)))))))))
theorem Has.h11 {c1 c2 c3 c4 c5 c6 c7 c8 c9 c10 c11 a : Item'} {l : Items} : Has (c1 :: c2 :: c3 :: c4 :: c5 :: c6 :: c7 :: c8 :: c9 :: c10 :: c11 :: a :: l) a := .there (.there (.there (.there (.there (.there (.there (.there (.there (.there (.there .here))))))))))
theorem Upd.h11 {c1 c2 c3 c4 c5 c6 c7 c8 c9 c10 c11 a b : Item'} {l : Items} : Upd (c1 :: c2 :: c3 :: c4 :: c5 :: c6 :: c7 :: c8 :: c9 :: c10 :: c11 :: a :: l) a b (c1 :: c2 :: c3 :: c4 :: c5 :: c6 :: c7 :: c8 :: c9 :: c10 :: c11 :: b :: l) := .there (.there (.there (.there (.there (.there (.there (.there (.there (.there (.there .here))))))))))
theorem Del.h11 {c1 c2 c3 c4 c5 c6 c7 c8 c9 c10 c11 a : Item'} {l : Items} : Del (c1 :: c2 :: c3 :: c4 :: c5 :: c6 :: c7 :: c8 :: c9 :: c10 :: c11 :: a :: l) (c1 :: c2 :: c3 :: c4 :: c5 :: c6 :: c7 :: c8 :: c9 :: c10 :: c11 :: l) := .there (.there (.there (.there (.there (.there (.there (.there (.there (.there (.there .here))))))))))
theorem Has.h12 {c1 c2 c3 c4 c5 c6 c7 c8 c9 c10 c11 c12 a : Item'} {l : Items} : Has (c1 :: c2 :: c3 :: c4 :: c5 :: c6 :: c7 :: c8 :: c9 :: c10 :: c11 :: c12 :: a :: l) a := .there (.there (.there (.there (.there (.there (.there (.there (.there (.there (.there (.there .here)))))))))))
theorem Upd.h12 {c1 c2 c3 c4 c5 c6 c7 c8 c9 c10 c11 c12 a b : Item'} {l : Items} : Upd (c1 :: c2 :: c3 :: c4 :: c5 :: c6 :: c7 :: c8 :: c9 :: c10 :: c11 :: c12 :: a :: l) a b (c1 :: c2 :: c3 :: c4 :: c5 :: c6 :: c7 :: c8 :: c9 :: c10 :: c11 :: c12 :: b :: l) := .there (.there (.there (.there (.there (.there (.there (.there (.there (.there (.there (.there .here)))))))))))
theorem Del.h12 {c1 c2 c3 c4 c5 c6 c7 c8 c9 c10 c11 c12 a : Item'} {l : Items} : Del (c1 :: c2 :: c3 :: c4 :: c5 :: c6 :: c7 :: c8 :: c9 :: c10 :: c11 :: c12 :: a :: l) (c1 :: c2 :: c3 :: c4 :: c5 :: c6 :: c7 :: c8 :: c9 :: c10 :: c11 :: c12 :: l) := .there (.there (.there (.there (.there (.there (.there (.there (.there (.there (.there (.there .here)))))))))))
theorem Has.h14 {c1 c2 c3 c4 c5 c6 c7 c8 c9 c10 c11 c12 c13 c14 a : Item'} {l : Items} : Has (c1 :: c2 :: c3 :: c4 :: c5 :: c6 :: c7 :: c8 :: c9 :: c10 :: c11 :: c12 :: c13 :: c14 :: a :: l) a := .there (.there (.there (.there (.there (.there (.there (.there (.there (.there (.there (.there (.there (.there .here)))))))))))))
theorem Upd.h14 {c1 c2 c3 c4 c5 c6 c7 c8 c9 c10 c11 c12 c13 c14 a b : Item'} {l : Items} : Upd (c1 :: c2 :: c3 :: c4 :: c5 :: c6 :: c7 :: c8 :: c9 :: c10 :: c11 :: c12 :: c13 :: c14 :: a :: l) a b (c1 :: c2 :: c3 :: c4 :: c5 :: c6 :: c7 :: c8 :: c9 :: c10 :: c11 :: c12 :: c13 :: c14 :: b :: l) := .there (.there (.there (.there (.there (.there (.there (.there (.there (.there (.there (.there (.there (.there .here)))))))))))))
theorem Del.h14 {c1 c2 c3 c4 c5 c6 c7 c8 c9 c10 c11 c12 c13 c14 a : Item'} {l : Items} : Del (c1 :: c2 :: c3 :: c4 :: c5 :: c6 :: c7 :: c8 :: c9 :: c10 :: c11 :: c12 :: c13 :: c14 :: a :: l) (c1 :: c2 :: c3 :: c4 :: c5 :: c6 :: c7 :: c8 :: c9 :: c10 :: c11 :: c12 :: c13 :: c14 :: l) := .there (.there (.there (.there (.there (.there (.there (.there (.there (.there (.there (.there (.there (.there .here)))))))))))))
theorem Has.h15 {c1 c2 c3 c4 c5 c6 c7 c8 c9 c10 c11 c12 c13 c14 c15 a : Item'} {l : Items} : Has (c1 :: c2 :: c3 :: c4 :: c5 :: c6 :: c7 :: c8 :: c9 :: c10 :: c11 :: c12 :: c13 :: c14 :: c15 :: a :: l) a := .there (.there (.there (.there (.there (.there (.there (.there (.there (.there (.there (.there (.there (.there (.there .here))))))))))))))
theorem Upd.h15 {c1 c2 c3 c4 c5 c6 c7 c8 c9 c10 c11 c12 c13 c14 c15 a b : Item'} {l : Items} : Upd (c1 :: c2 :: c3 :: c4 :: c5 :: c6 :: c7 :: c8 :: c9 :: c10 :: c11 :: c12 :: c13 :: c14 :: c15 :: a :: l) a b (c1 :: c2 :: c3 :: c4 :: c5 :: c6 :: c7 :: c8 :: c9 :: c10 :: c11 :: c12 :: c13 :: c14 :: c15 :: b :: l) := .there (.there (.there (.there (.there (.there (.there (.there (.there (.there (.there (.there (.there (.there (.there .here))))))))))))))
theorem Del.h15 {c1 c2 c3 c4 c5 c6 c7 c8 c9 c10 c11 c12 c13 c14 c15 a : Item'} {l : Items} : Del (c1 :: c2 :: c3 :: c4 :: c5 :: c6 :: c7 :: c8 :: c9 :: c10 :: c11 :: c12 :: c13 :: c14 :: c15 :: a :: l) (c1 :: c2 :: c3 :: c4 :: c5 :: c6 :: c7 :: c8 :: c9 :: c10 :: c11 :: c12 :: c13 :: c14 :: c15 :: l) := .there (.there (.there (.there (.there (.there (.there (.there (.there (.there (.there (.there (.there (.there (.there .here))))))))))))))
section
variable {P : Program} {f : FB} {n : Nat} {k : List Item} {σ : Nat → Value} {H : Hp} {L : Items} {R : Value → Hp → Items → Prop}
end
end Go.Proofs.YtoijknggnlbopaaDoorK

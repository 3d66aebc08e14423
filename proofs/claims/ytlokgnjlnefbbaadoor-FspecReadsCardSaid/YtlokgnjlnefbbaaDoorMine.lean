/- Small laws for my own walks: a conversion of bytes into a string as one step of a walk. -/
import Derived.Test.YtlokgnjlnefbbaaDoorWWords
import Derived.Test.YtlokgnjlnefbbaaDoorWMore
import Derived.Test.YtlokgnjlnefbbaaDoorWGuard
namespace Go.Proofs.YtlokgnjlnefbbaaDoor
open Go.RowKit Go.Proofs.YtlokgnjlnefbbaaDoorW.PrintWords
section
variable {P : Program} {ops : Array Oper} {rest : List Oper} {o : Oper} {a : Act} {Q : Exit → Act → World → Prop} {W : World}
theorem event_conv {src dst e : TypeId} {x : Operand} {v : Value} {base n : Nat} {e' : TypeId} {xs : List Int} (hgd : o.guard = none) (hop : o.op = .convert src dst x) (hx : a.eval x = v)
    (hs : P.underlying src = some (.slice e)) (he : P.underlying e = some (.int .u8)) (hd : P.underlying dst = some .string) (hrow : W.ownsRow base e' 1 v n (nums .u8 xs))
    (h : wpList P ops Q rest (a.put o.dst (.string (strOfNums xs))) W) : wpList P ops Q (o :: rest) a W := by
  refine Kd.event_run hgd ?_ h
  unfold execOp
  rw [hop]
  simp only [hx, Sem.run_bind, own_string hs he hd hrow, Result.andThen]
  rfl
end
end Go.Proofs.YtlokgnjlnefbbaaDoor

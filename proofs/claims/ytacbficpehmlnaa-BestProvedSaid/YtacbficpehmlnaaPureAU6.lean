/- Pairs by bids: the least costly matching, by trying all. -/
import Derived.Test.YtacbficpehmlnaaPureAU5
namespace Go.Proofs.Ytacbficpehmlnaa.Pure
open Go.RowKit Go.Proofs.YtacbficpehmlnaaK Go.Proofs.Ytacbficpehmlnaa.GBQ
set_option linter.unusedVariables false
set_option linter.unusedSimpArgs false
set_option maxRecDepth 100000
def lp (g : List Bool → Int) (r : List Int) (tk : List Bool) : Nat → Nat → Int → Int
  | 0, _, b => b
  | m + 1, p, b => if rd r (p : Int) < 0 ∨ rd tk (p : Int) = true then lp g r tk m (p + 1) b else lp g r tk m (p + 1) (if rd r (p : Int) + g (tk.set p true) < b then rd r (p : Int) + g (tk.set p true) else b)
/-! ### the program's -/
end Go.Proofs.Ytacbficpehmlnaa.Pure

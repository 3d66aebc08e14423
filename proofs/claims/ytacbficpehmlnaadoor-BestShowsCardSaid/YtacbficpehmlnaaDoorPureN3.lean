/- Products of the reference's whole numbers. -/
import Derived.Test.YtacbficpehmlnaaDoorPureN2
namespace Go.Proofs.YtacbficpehmlnaaDoor.Pure
open Go.RowKit Go.Proofs.YtacbficpehmlnaaDoorK Go.Proofs.YtacbficpehmlnaaDoor.GBS
set_option linter.unusedVariables false
set_option linter.unusedSimpArgs false
/-! ### products -/
end Go.Proofs.YtacbficpehmlnaaDoor.Pure

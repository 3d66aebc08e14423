/- Products of the reference's whole numbers. -/
import Derived.Test.YtacbficpehmlnaaPureN2
namespace Go.Proofs.Ytacbficpehmlnaa.Pure
open Go.RowKit Go.Proofs.YtacbficpehmlnaaK Go.Proofs.Ytacbficpehmlnaa.GBQ
set_option linter.unusedVariables false
set_option linter.unusedSimpArgs false
/-! ### products -/
end Go.Proofs.Ytacbficpehmlnaa.Pure

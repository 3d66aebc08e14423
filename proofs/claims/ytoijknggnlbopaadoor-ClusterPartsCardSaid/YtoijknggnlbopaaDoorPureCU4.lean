/- What hangs together: the document's groups. -/
import Derived.Test.YtoijknggnlbopaaDoorPureCU3
namespace Go.Proofs.YtoijknggnlbopaaDoor.Pure
open Go.RowKit Go.Proofs.YtoijknggnlbopaaDoorK Go.Proofs.YtoijknggnlbopaaDoor.GCP
set_option linter.unusedVariables false
set_option linter.unusedSimpArgs false
set_option linter.unusedSectionVars false
set_option maxRecDepth 100000
/-! ### what tracks that meet have in common -/
/-! ### the least ones -/
end Go.Proofs.YtoijknggnlbopaaDoor.Pure

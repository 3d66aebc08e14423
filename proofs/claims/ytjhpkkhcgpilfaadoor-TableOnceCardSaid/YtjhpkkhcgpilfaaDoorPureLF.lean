/- Lives: what the reference's functions answer (out of LifeRuns). -/
import Derived.Test.YtjhpkkhcgpilfaaDoorPureLifeNext
namespace Go.Proofs.YtjhpkkhcgpilfaaDoor.Pure
open Go.RowKit Go.Proofs.YtjhpkkhcgpilfaaDoorK Go.Proofs.YtjhpkkhcgpilfaaDoor.GTO
set_option linter.unusedVariables false
set_option linter.unusedSimpArgs false
end Go.Proofs.YtjhpkkhcgpilfaaDoor.Pure

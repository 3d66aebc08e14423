/- append to an own slice that is read behind it: both are known for good. -/
import Derived.Test.YtjhpkkhcgpilfaaDoorGTOk13
namespace Go.Proofs.YtjhpkkhcgpilfaaDoorK
open Go Go.RowKit
set_option linter.unusedVariables false
set_option linter.unusedSimpArgs false
section
variable {P : Program} {f : FB} {n : Nat} {k : List Item} {σ : Nat → Value} {H : Hp} {L : Items} {R : Value → Hp → Items → Prop}
end
end Go.Proofs.YtjhpkkhcgpilfaaDoorK

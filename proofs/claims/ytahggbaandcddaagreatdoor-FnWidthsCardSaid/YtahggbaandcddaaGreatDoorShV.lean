/- Contracts: valid sheets, by the program. -/
import Derived.Test.YtahggbaandcddaaGreatDoorShS

namespace Go.Proofs.YtahggbaandcddaaGreatDoor
open Go Go.RowKit
set_option linter.unusedVariables false
set_option linter.unusedSimpArgs false

end Go.Proofs.YtahggbaandcddaaGreatDoor

/- Contracts: valid sheets, by the program. -/
import Derived.Test.YtonnplaacebekaaGreatDoorShS

namespace Go.Proofs.YtonnplaacebekaaGreatDoor
open Go Go.RowKit
set_option linter.unusedVariables false
set_option linter.unusedSimpArgs false

end Go.Proofs.YtonnplaacebekaaGreatDoor

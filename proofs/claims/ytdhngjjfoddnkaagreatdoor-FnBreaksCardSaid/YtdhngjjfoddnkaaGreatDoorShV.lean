/- Contracts: valid sheets, by the program. -/
import Derived.Test.YtdhngjjfoddnkaaGreatDoorShS

namespace Go.Proofs.YtdhngjjfoddnkaaGreatDoor
open Go Go.RowKit
set_option linter.unusedVariables false
set_option linter.unusedSimpArgs false

end Go.Proofs.YtdhngjjfoddnkaaGreatDoor

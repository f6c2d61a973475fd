/- Contracts: the code of a face, a sheet and a text, by the program. -/
import Derived.Test.YtdhngjjfoddnkaaGreatDoorShV

namespace Go.Proofs.YtdhngjjfoddnkaaGreatDoor
open Go Go.RowKit
set_option linter.unusedVariables false
set_option linter.unusedSimpArgs false

end Go.Proofs.YtdhngjjfoddnkaaGreatDoor

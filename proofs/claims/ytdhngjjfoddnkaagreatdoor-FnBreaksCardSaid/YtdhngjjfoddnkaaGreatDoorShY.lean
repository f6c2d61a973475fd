/- Contract: the letters of a text, by the program. -/
import Derived.Test.YtdhngjjfoddnkaaGreatDoorShW
import Derived.Test.YtdhngjjfoddnkaaGreatDoorShX
namespace Go.Proofs.YtdhngjjfoddnkaaGreatDoor
open Go Go.RowKit
set_option linter.unusedVariables false
set_option linter.unusedSimpArgs false

end Go.Proofs.YtdhngjjfoddnkaaGreatDoor

/- Contracts: valid sheets, by the program. -/
import Derived.Test.YtpindajpdkpfjaaGreatDoorShS

namespace Go.Proofs.YtpindajpdkpfjaaGreatDoor
open Go Go.RowKit
set_option linter.unusedVariables false
set_option linter.unusedSimpArgs false

end Go.Proofs.YtpindajpdkpfjaaGreatDoor

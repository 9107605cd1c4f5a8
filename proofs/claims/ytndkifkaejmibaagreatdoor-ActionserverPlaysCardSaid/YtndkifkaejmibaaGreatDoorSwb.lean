/- The law Once: outcomes that are unique. No conditions. -/
import Derived.Test.YtndkifkaejmibaaGreatDoorSwa

namespace Go.Proofs.YtndkifkaejmibaaGreatDoor
open Go.RowKit
set_option maxRecDepth 4000
set_option linter.unusedVariables false
set_option linter.unusedSimpArgs false
set_option maxHeartbeats 8000000

end Go.Proofs.YtndkifkaejmibaaGreatDoor

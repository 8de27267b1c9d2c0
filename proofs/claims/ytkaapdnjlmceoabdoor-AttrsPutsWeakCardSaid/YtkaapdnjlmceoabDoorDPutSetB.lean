/- attrs.PutSet: the door, whatever the mode. -/
import Derived.Test.YtkaapdnjlmceoabDoorDPutSet
set_option linter.unusedVariables false
set_option linter.unusedSimpArgs false
namespace Go.Proofs.YtkaapdnjlmceoabDoor
open Go.RowKit
end Go.Proofs.YtkaapdnjlmceoabDoor

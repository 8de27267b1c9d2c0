/- attrs.GetSet: the door. -/
import Derived.Test.YtkaapdnjlmceoabDoorRDoor
import Derived.Test.YtkaapdnjlmceoabDoorGoes
set_option linter.unusedVariables false
set_option linter.unusedSimpArgs false
namespace Go.Proofs.YtkaapdnjlmceoabDoor
open Go.RowKit
def St.cells (s : St) : Array Value := #[.bool s.hasMode, .int .u32 s.mode, .bool s.hasUser, .int .u32 s.user, .bool s.hasGroup, .int .u32 s.group, .bool s.hasSize, .int .u64 s.size, .int .u32 s.readHow, .int .u32 s.read.sec, .int .u32 s.read.nano, .int .u32 s.writeHow, .int .u32 s.write.sec, .int .u32 s.write.nano]
def eSet (s : St) : Value := .agg s.cells
section
variable {A : Option Addr} {n cap : Nat} {xs : List UInt8} {w : World}
end
end Go.Proofs.YtkaapdnjlmceoabDoor

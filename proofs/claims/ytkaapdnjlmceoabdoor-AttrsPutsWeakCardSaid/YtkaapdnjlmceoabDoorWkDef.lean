/- What was told ahead and behind, as a value. -/
import Derived.Test.YtkaapdnjlmceoabDoorRDoorS
set_option linter.unusedVariables false
set_option linter.unusedSimpArgs false
namespace Go.Proofs.YtkaapdnjlmceoabDoor
open Go.RowKit
def Wk.cells (s : Wk) : Array Value := #[.bool s.hasBefore, .int .u64 s.size, .int .u32 s.write.sec, .int .u32 s.write.nano, .int .u32 s.turn.sec, .int .u32 s.turn.nano, .bool s.hasAfter, .int .u32 s.after.kind, .int .u32 s.after.mode, .int .u32 s.after.links, .int .u32 s.after.user, .int .u32 s.after.group, .int .u64 s.after.size, .int .u64 s.after.used, .int .u64 s.after.id, .int .u32 s.after.read.sec, .int .u32 s.after.read.nano, .int .u32 s.after.write.sec, .int .u32 s.after.write.nano, .int .u32 s.after.turn.sec, .int .u32 s.after.turn.nano]
def eWeak (s : Wk) : Value := .agg s.cells
section
variable {A : Option Addr} {n cap : Nat} {xs : List UInt8} {w : World}
theorem weak_true {xs : List UInt8} {k : Nat} (h : Goes pWeak xs k (Ps.bind (if true = true then Ps.bind pBefore fun x => Ps.pure (x, true) else Ps.pure ((0, ⟨0, 0⟩, ⟨0, 0⟩), false)) fun b => Ps.bind (pHad pAttrs At.zero) fun a => Ps.pure ⟨b.2, b.1.1, b.1.2.1, b.1.2.2, a.2, a.1⟩)) :
    Goes pWeak xs k (Ps.bind pLong fun s => Ps.bind pTime fun u => Ps.bind pTime fun t => Ps.bind (pHad pAttrs At.zero) fun a => Ps.pure ⟨true, s, u, t, a.2, a.1⟩) := by
  simpa only [if_true, pBefore, Ps.bind_assoc, Ps.pure_bind] using h
end
end Go.Proofs.YtkaapdnjlmceoabDoor

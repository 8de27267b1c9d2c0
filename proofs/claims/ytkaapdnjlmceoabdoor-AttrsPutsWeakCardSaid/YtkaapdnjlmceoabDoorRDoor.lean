/- attrs.Get: the door. -/
import Derived.Test.YtkaapdnjlmceoabDoorRHadC
set_option linter.unusedVariables false
set_option linter.unusedSimpArgs false
namespace Go.Proofs.YtkaapdnjlmceoabDoor
open Go.RowKit
theorem below_grown {m R : Nat} {w a b : World} (h : Below m w a) (hg : a.grownBy b (some R)) (hm : m ≤ w.heap.size) (hR : m ≤ R) : Below m w b :=
  ⟨hg.os.trans h.os, hg.tape.trans h.tape, hg.output.trans h.output, Nat.le_trans h.size hg.size, fun i hi => (hg.block i (Nat.lt_of_lt_of_le hi (by have := h.size; omega)) (by simp; omega)).trans (h.block i hi)⟩
/-- What a Get comes to. -/
def GetPost {α : Type} (p : Ps α) (enc : α → Value) (z : α) (n : Nat) (xs : List UInt8) (w : World) (e : Ending) (w' : World) : Prop :=
  Below w.heap.size w w' ∧ ((∃ v k, p xs = .ok (v, k) ∧ k ≤ n ∧ e = .returned (.tuple #[enc v, .int .i64 k, .int .i64 0])) ∨
  (∃ er, p xs = .error er ∧ e = .returned (.tuple #[enc z, .int .i64 0, .int .i64 er])))
section
variable {A : Option Addr} {n cap : Nat} {xs : List UInt8} {w : World}
end
end Go.Proofs.YtkaapdnjlmceoabDoor

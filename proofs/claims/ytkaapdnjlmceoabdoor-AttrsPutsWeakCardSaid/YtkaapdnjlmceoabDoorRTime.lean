/- The document's Get of a point of time; the Reader's Time, Attrs, Must. -/
import Derived.Test.YtkaapdnjlmceoabDoorRRead
set_option linter.unusedVariables false
set_option linter.unusedSimpArgs false
namespace Go.Proofs.YtkaapdnjlmceoabDoor
open Go.RowKit
section
variable {A : Option Addr} {n cap : Nat} {xs : List UInt8} {w : World}
theorem pTime_err {b : List UInt8} {er : Int} (h : pTime b = .error er) : er ≠ 0 := by
  simp only [pTime] at h
  split at h
  · injection h with h; omega
  · split at h
    · cases h
    · injection h with h; omega
theorem pTime_len {b : List UInt8} {v : Tm} {j : Nat} (h : pTime b = .ok (v, j)) {k n : Nat} (hl : b.length = n - k ∧ k ≤ n) : j = 8 ∧ k + 8 ≤ n := by
  simp only [pTime] at h
  split at h
  · cases h
  · split at h
    · injection h with h; injection h with h1 h2; exact ⟨h2.symm, by omega⟩
    · cases h
end
section
variable {R : Nat} {A : Option Addr} {n cap k : Nat} {xs : List UInt8} {w : World} {er : Int}
end
end Go.Proofs.YtkaapdnjlmceoabDoor

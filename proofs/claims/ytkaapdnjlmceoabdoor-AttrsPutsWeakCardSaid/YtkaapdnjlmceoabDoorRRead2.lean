/- The document's Reader: Time, Attrs. Printed by gen_rread2.py. -/
import Derived.Test.YtkaapdnjlmceoabDoorRTime
set_option linter.unusedVariables false
set_option linter.unusedSimpArgs false
namespace Go.Proofs.YtkaapdnjlmceoabDoor
open Go.RowKit
section
variable {R : Nat} {A : Option Addr} {n cap k : Nat} {xs : List UInt8} {w : World} {er : Int}
theorem pAttrs_err {b : List UInt8} {er : Int} (h : pAttrs b = .error er) : er ≠ 0 := by
  simp only [pAttrs] at h
  split at h
  · injection h with h; omega
  · split at h
    · cases h
    · injection h with h; omega
theorem pAttrs_len {b : List UInt8} {v : At} {j : Nat} (h : pAttrs b = .ok (v, j)) {k n : Nat} (hl : b.length = n - k ∧ k ≤ n) : j = 84 ∧ k + 84 ≤ n := by
  simp only [pAttrs] at h
  split at h
  · cases h
  · split at h
    · injection h with h; injection h with h1 h2; exact ⟨h2.symm, by omega⟩
    · cases h
end
end Go.Proofs.YtkaapdnjlmceoabDoor

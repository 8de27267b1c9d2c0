/- The document's Reader of parts: it stops at its first error. Printed by gen_rread.py. -/
import Derived.Test.YtkaapdnjlmceoabDoorRefGet
import Derived.Test.YtkaapdnjlmceoabDoorRHadC
set_option linter.unusedVariables false
set_option linter.unusedSimpArgs false
namespace Go.Proofs.YtkaapdnjlmceoabDoor
open Go.RowKit
/-- What a Get comes to: the value, or zero; and the error, or none. -/
def outP {α : Type} (p : Ps α) (z : α) (b : List UInt8) : α × Int := match p b with | .ok (v, _) => (v, 0) | .error e => (z, e)
theorem outP_ok {α : Type} {p : Ps α} {z v : α} {b : List UInt8} {k : Nat} (h : p b = .ok (v, k)) : outP p z b = (v, 0) := by rw [outP, h]
theorem outP_bad {α : Type} {p : Ps α} {z : α} {b : List UInt8} {e : Int} (h : p b = .error e) : outP p z b = (z, e) := by rw [outP, h]
section
variable {A : Option Addr} {n cap : Nat} {xs : List UInt8} {w : World}
end
namespace RRB
variable {w w' : World} {R : Nat} {A : Option Addr} {n cap k : Nat} {er : Int}
end RRB
section
variable {R : Nat} {A : Option Addr} {n cap k : Nat} {xs : List UInt8} {w : World} {er : Int}
theorem pNum_len {b : List UInt8} {v j : Nat} (h : pNum b = .ok (v, j)) {k n : Nat} (hl : b.length = n - k ∧ k ≤ n) : j = 4 ∧ k + 4 ≤ n := by
  simp only [pNum] at h
  split at h
  · cases h
  · injection h with h; injection h with h1 h2; exact ⟨h2.symm, by omega⟩
theorem pLong_len {b : List UInt8} {v j : Nat} (h : pLong b = .ok (v, j)) {k n : Nat} (hl : b.length = n - k ∧ k ≤ n) : j = 8 ∧ k + 8 ≤ n := by
  simp only [pLong] at h
  split at h
  · cases h
  · injection h with h; injection h with h1 h2; exact ⟨h2.symm, by omega⟩
theorem pYes_len {b : List UInt8} {v : Bool} {j : Nat} (h : pYes b = .ok (v, j)) {k n : Nat} (hl : b.length = n - k ∧ k ≤ n) : j = 4 ∧ k + 4 ≤ n := by
  simp only [pYes] at h
  split at h
  · cases h
  · split at h
    · cases h
    · injection h with h; injection h with h1 h2; exact ⟨h2.symm, by omega⟩
theorem pNum_err {b : List UInt8} {er : Int} (h : pNum b = .error er) : er ≠ 0 := by
  simp only [pNum] at h
  split at h
  · injection h with h; omega
  · cases h
theorem pLong_err {b : List UInt8} {er : Int} (h : pLong b = .error er) : er ≠ 0 := by
  simp only [pLong] at h
  split at h
  · injection h with h; omega
  · cases h
theorem pYes_err {b : List UInt8} {er : Int} (h : pYes b = .error er) : er ≠ 0 := by
  simp only [pYes] at h
  split at h
  · injection h with h; omega
  · split at h
    · injection h with h; omega
    · cases h

end
end Go.Proofs.YtkaapdnjlmceoabDoor

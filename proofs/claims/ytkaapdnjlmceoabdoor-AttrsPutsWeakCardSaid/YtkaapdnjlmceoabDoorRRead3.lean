/- The document's Reader: Attrs. Printed by gen_rread2.py. -/
import Derived.Test.YtkaapdnjlmceoabDoorRRead2
set_option linter.unusedVariables false
set_option linter.unusedSimpArgs false
namespace Go.Proofs.YtkaapdnjlmceoabDoor
open Go.RowKit
section
variable {R : Nat} {A : Option Addr} {n cap k : Nat} {xs : List UInt8} {w : World} {er : Int}
theorem GetPost.three {α : Type} {p : Ps α} {enc : α → Value} {z : α} {n : Nat} {xs : List UInt8} : ∃ v j er, ((p xs = .ok (v, j) ∧ er = 0) ∨ (p xs = .error er ∧ v = z ∧ j = 0)) ∧ ∀ w e w', GetPost p enc z n xs w e w' → Below w.heap.size w w' ∧ e = .returned (.tuple #[enc v, .int .i64 j, .int .i64 er]) := by
  rcases hp : p xs with er | ⟨v, k⟩
  · refine ⟨z, 0, er, .inr ⟨rfl, rfl, rfl⟩, fun w e w' h => ⟨h.1, ?_⟩⟩
    rcases h.2 with ⟨v', k', h1, _⟩ | ⟨er', h1, rfl⟩
    · rw [hp] at h1; cases h1
    · rw [hp] at h1; injection h1 with h1; subst h1; rfl
  · refine ⟨v, k, 0, .inl ⟨rfl, rfl⟩, fun w e w' h => ⟨h.1, ?_⟩⟩
    rcases h.2 with ⟨v', k', h1, _, rfl⟩ | ⟨er', h1, _⟩
    · rw [hp] at h1; injection h1 with h1; injection h1 with h1 h2; subst h1; subst h2; rfl
    · rw [hp] at h1; cases h1
end
end Go.Proofs.YtkaapdnjlmceoabDoor

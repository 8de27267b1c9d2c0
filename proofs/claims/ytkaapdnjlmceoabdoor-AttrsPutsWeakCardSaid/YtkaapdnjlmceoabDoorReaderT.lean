/- attrs: the reader's next point of time. -/
import Derived.Test.YtkaapdnjlmceoabDoorReader
import Derived.Deep.RegionHeld3
import Derived.Deep.RegionWith
import Derived.Deep.DeepCutAuto
set_option linter.unusedVariables false
set_option linter.unusedSimpArgs false
namespace Go.Proofs.YtkaapdnjlmceoabDoor
open Go.RowKit
section
variable {R : Nat} {A : Option Addr} {n cap k : Nat} {xs : List UInt8} {w : World}
/-- The address and the room of what stands from k on, as the walk spells them once the test is decided. -/
theorem Bs.rest (hB : Bs w A n xs) (hc : n ≤ cap) (hk : k ≤ n) : ∃ A' m c', Bs w A' m (xs.drop k) ∧ m ≤ c' ∧ m = n - k ∧ ((k < cap ∧ A' = Option.map (fun x => x.add k) A ∧ m = n - k ∧ c' = cap - k) ∨ (cap = k ∧ n = k ∧ A' = A ∧ m = 0 ∧ c' = 0)) := by
  rcases Nat.lt_or_ge k cap with h | h
  · exact ⟨_, _, _, hB.from_lt k hk h, by omega, rfl, .inl ⟨h, rfl, rfl, rfl⟩⟩
  · have h1 : xs.drop k = [] := List.eq_nil_of_length_eq_zero (by rw [List.length_drop, hB.1]; omega)
    exact ⟨A, 0, 0, by rw [h1]; exact Bs.nil _ _, Nat.le_refl _, by omega, .inr ⟨by omega, by omega, rfl, rfl, rfl⟩⟩

end
end Go.Proofs.YtkaapdnjlmceoabDoor

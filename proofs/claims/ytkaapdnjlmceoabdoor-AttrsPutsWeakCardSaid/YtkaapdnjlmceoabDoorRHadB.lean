/- attrs: what is, next, if it is: of the kinds that are. Printed by gen_had.py. -/
import Derived.Test.YtkaapdnjlmceoabDoorRHad
set_option linter.unusedVariables false
set_option linter.unusedSimpArgs false
namespace Go.Proofs.YtkaapdnjlmceoabDoor
open Go.RowKit
section
variable {R : Nat} {A : Option Addr} {n cap k : Nat} {xs : List UInt8} {w : World}
theorem pHad_no {α : Type} {p : Ps α} {z : α} {b : List UInt8} {j : Nat} (h : pYes b = .ok (false, j)) : pHad p z b = .ok ((z, false), j) := by
  rw [pHad, Ps.bind_ok h]; rfl
theorem pHad_yes {α : Type} {p : Ps α} {z x : α} {b : List UInt8} {j m : Nat} (h : pYes b = .ok (true, j)) (h' : p (b.drop j) = .ok (x, m)) : pHad p z b = .ok ((x, true), j + m) := by
  rw [pHad, Ps.bind_ok h]; simp [Ps.bind, h', Ps.pure]
theorem pHad_yes_bad {α : Type} {p : Ps α} {z : α} {b : List UInt8} {j : Nat} {er : Int} (h : pYes b = .ok (true, j)) (h' : p (b.drop j) = .error er) : pHad p z b = .error er := by
  rw [pHad, Ps.bind_ok h]; simp [Ps.bind, h']
theorem pHad_bad {α : Type} {p : Ps α} {z : α} {b : List UInt8} {er : Int} (h : pYes b = .error er) : pHad p z b = .error er := Ps.bind_error h
def eHad {α : Type} (enc : α → Value) (x : α × Bool) : Value := .tuple #[enc x.1, .bool x.2]

end
end Go.Proofs.YtkaapdnjlmceoabDoor

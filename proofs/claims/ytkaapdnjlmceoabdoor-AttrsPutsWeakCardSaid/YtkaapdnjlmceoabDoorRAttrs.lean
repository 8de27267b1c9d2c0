/- attrs: the reader's next Attrs. -/
import Derived.Test.YtkaapdnjlmceoabDoorReaderT
import Derived.Test.YtkaapdnjlmceoabDoorStop
import Derived.Test.YtkaapdnjlmceoabDoorPureB
import Derived.Test.YtkaapdnjlmceoabDoorContains
set_option linter.unusedVariables false
set_option linter.unusedSimpArgs false
namespace Go.Proofs.YtkaapdnjlmceoabDoor
open Go.RowKit
section
variable {R : Nat} {A : Option Addr} {n cap k : Nat} {xs : List UInt8} {w : World}

theorem must_any (c : Bool) (e : Int) (w : World) : Calls Tryd.prog 23 #[.bool c, .int .i64 e] w fun r w' => (c = true ∧ r = .returned (.tuple #[]) ∧ w = w') ∨ (c = false ∧ r = .panicked (wr e) ∧ w = w') := by
  cases c
  · exact (must_no e w).mono fun r w' h => .inr ⟨rfl, h⟩
  · exact (must_yes e w).mono fun r w' h => .inl ⟨rfl, h⟩

theorem pAttrs_bad {b : List UInt8} (h : 84 ≤ b.length) (hm : atMay b = false) : pAttrs b = .error 5 := by rw [pAttrs, if_neg (by omega), hm]; rfl
theorem pAttrs_ok {b : List UInt8} (h : 84 ≤ b.length) (hm : atMay b = true) : pAttrs b = .ok (atOf b, 84) := by rw [pAttrs, if_neg (by omega), hm]; rfl
theorem int_beq_nat (m j : Nat) (c : Bool) (h : ((m : Int) == (j : Int)) = c) : (m == j) = c := by
  rw [← h, Bool.eq_iff_iff, beq_iff_eq, beq_iff_eq]; exact ⟨fun e => by rw [e], fun e => by omega⟩
def At.cells (a : At) : Array Value := #[.int .u32 a.kind, .int .u32 a.mode, .int .u32 a.links, .int .u32 a.user, .int .u32 a.group, .int .u64 a.size, .int .u64 a.used, .int .u64 a.id, .int .u32 a.read.sec, .int .u32 a.read.nano, .int .u32 a.write.sec, .int .u32 a.write.nano, .int .u32 a.turn.sec, .int .u32 a.turn.nano]
def eAttrs (a : At) : Value := .agg a.cells

end
end Go.Proofs.YtkaapdnjlmceoabDoor

/- attrs.Put: the door. -/
import Derived.Test.YtkaapdnjlmceoabDoorToldB
import Derived.Test.YtkaapdnjlmceoabDoorRDoor
set_option linter.unusedVariables false
set_option linter.unusedSimpArgs false
namespace Go.Proofs.YtkaapdnjlmceoabDoor
open Go.RowKit
/-- What a Put comes to. -/
def PutPost (r : Except Int (List UInt8)) (w : World) (e : Ending) (w' : World) : Prop :=
  Below w.heap.size w w' ∧ ((∃ bs v, r = .ok bs ∧ e = .returned (.tuple #[v, .int .i64 0]) ∧ OwnB w' w.heap.size v bs) ∨ (∃ er, r = .error er ∧ e = .returned (.tuple #[.slice none 0 0, .int .i64 er])))
theorem OwnB.set {w : World} {base : Nat} {v : Value} {bs : List UInt8} (h : OwnB w base v bs) {p : Addr} (hp : p.block < base) (u : Value) : OwnB (w.setCell p u) base v bs := by
  unfold OwnB at h ⊢
  rcases h.2 with hn | ⟨g, cap, cur, hv, hb, hh, hr⟩
  · exact ⟨h.1, .inl hn⟩
  · exact ⟨h.1, .inr ⟨g, cap, cur, hv, hb, (Below.heap_setCell _ _ _ _ (by omega)).trans hh, hr⟩⟩
end Go.Proofs.YtkaapdnjlmceoabDoor

/- The laws' helpers: Beyond, TwinBytes, LeftBytes, SameBytes. -/
import Derived.Test.YtkaapdnjlmceoabDoorAppend
import Derived.Deep.QuietTactic
import Derived.BigQuiet
set_option linter.unusedVariables false
set_option linter.unusedSimpArgs false
namespace Go.Proofs.YtkaapdnjlmceoabDoor
open Go.RowKit
theorem OwnB.one (w : World) (x : UInt8) : OwnB (w.alloc (.cells #[.int .u8 x.toNat] 5)) w.heap.size (.slice (some ⟨w.heap.size, 0, none⟩) 1 1) [x] :=
  ⟨rfl, .inr ⟨w.heap.size, 1, _, rfl, Nat.le_refl _, heap_alloc_new _ _, Nat.le_refl _, by decide, rfl, rfl⟩⟩
theorem OwnB.slice' {w : World} {base m : Nat} {v : Value} {bs : List UInt8} (h : OwnB w base v bs) (hl : bs.length = m) (hp : 0 < m) :
    ∃ g cap, v = .slice (some ⟨g, 0, none⟩) m cap ∧ base ≤ g ∧ m ≤ cap ∧ cap ≤ 9223372036854775807 ∧ Bs w (some ⟨g, 0, none⟩) m bs := by
  subst hl
  obtain ⟨g, cap, rfl, hb, hg, h1, h2, hc⟩ := h.slice hp
  refine ⟨g, cap, rfl, hb, h1, h2, rfl, by omega, fun _ => ⟨g, 0, rfl, hg, fun j hj => ?_⟩⟩
  have := hc j (.int .u8 (bs.getD j 0).toNat) (by simp [u8s, List.getElem?_eq_getElem hj])
  rwa [Addr.add_lit] at this
section
variable {A B : Option Addr} {n cap cap2 : Nat} {xs ys : List UInt8} {w : World}
end
end Go.Proofs.YtkaapdnjlmceoabDoor

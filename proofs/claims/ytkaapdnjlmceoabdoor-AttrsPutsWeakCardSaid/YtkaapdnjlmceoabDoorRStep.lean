/- The document's Reader: each part as one step, whatever its error is. -/
import Derived.Test.YtkaapdnjlmceoabDoorRRead3
import Derived.Test.YtkaapdnjlmceoabDoorRInv
set_option linter.unusedVariables false
set_option linter.unusedSimpArgs false
namespace Go.Proofs.YtkaapdnjlmceoabDoor
open Go.RowKit
section
variable {R : Nat} {A : Option Addr} {n cap k : Nat} {xs : List UInt8} {w : World} {er : Int}
end
/-- A block of the call's own. -/
def OwnL (w : World) (b : Nat) (l : List Value) : Prop := b < w.heap.size ∧ (∀ o, w.cell? ⟨b, o, none⟩ = l[o]?) ∧ (∀ o, w.frozen? ⟨b, o, none⟩ = false)
namespace OwnL
variable {w w' : World} {b R : Nat} {l : List Value}
theorem set (h : OwnL w b l) {i : Nat} {v : Value} (hi : i < l.length := by simp) : OwnL (w.setCell ⟨b, i, none⟩ v) b (l.set i v) := by
  refine ⟨by simpa [World.setCell] using h.1, fun o => ?_, fun o => ?_⟩
  · by_cases ho : i = o
    · subst ho
      have hc := h.2.1 i
      simp [go_sem, hc, List.getElem?_eq_getElem hi, hi]
    · have hc := h.2.1 o
      rw [List.getElem?_set_ne ho, ← hc]
      simp [go_sem, ho, Ne.symm ho]
  · have := h.2.2 o
    simp [go_sem, this]
theorem set_ (h : OwnL w b l) {i : Nat} {v : Value} (hi : i < l.length) : OwnL (w.setCell ⟨b, i, none⟩ v) b (l.set i v) := h.set hi
theorem other (h : OwnL w b l) {p : Addr} (hp : b ≠ p.block) {v : Value} : OwnL (w.setCell p v) b l := by
  have e := Below.heap_setCell w p v b hp
  exact ⟨by simpa [World.setCell] using h.1, fun o => (World.cell?_of_block (a := ⟨b, o, none⟩) e).trans (h.2.1 o), fun o => (World.frozen?_of_block (a := ⟨b, o, none⟩) e).trans (h.2.2 o)⟩
theorem grown (h : OwnL w b l) (hg : w.grownBy w' (some R)) (hne : ¬ b = R) : OwnL w' b l :=
  ⟨Nat.lt_of_lt_of_le h.1 hg.size, fun o => ((gcell hg).1 b o h.1 hne).trans (h.2.1 o), fun o => ((gcell hg).2 b o h.1 hne).trans (h.2.2 o)⟩
end OwnL
end Go.Proofs.YtkaapdnjlmceoabDoor

/- A region of a function that defers, in which a call may panic: what holds of the frame there. -/
import Derived.Test.YtkaapdnjlmceoabDoorDPut
import Derived.Deep.RegionHeld2
set_option linter.unusedVariables false
set_option linter.unusedSimpArgs false
namespace Go.Proofs.YtkaapdnjlmceoabDoor
open Go.RowKit
/-- What follows, or a panic of which F speaks, in a frame whose first results are as they were. -/
def KQ (K : Act → World → Prop) (F : List PanicEntry → World → Prop) (D : List Deferred) (x p : Value) : Exit → Act → World → Prop
  | .normal, a, w => K a w
  | .panic c, a, w => F c w ∧ a.defers = D ∧ a.tmps[2]? = some x ∧ a.tmps[3]? = some p
  | _, _, _ => False
theorem KQ.put {K : Act → World → Prop} {F : List PanicEntry → World → Prop} {D : List Deferred} {x p v : Value} {c : List PanicEntry} {a : Act} {w : World} {d : Nat} (h : KQ K F D x p (.panic c) (a.put (some (d + 4)) v) w) : KQ K F D x p (.panic c) a w := by
  obtain ⟨h1, h2, h3, h4⟩ := h
  refine ⟨h1, h2, ?_, ?_⟩
  · simpa [Act.put] using h3
  · simpa [Act.put] using h4
instance {K : Act → World → Prop} {F : List PanicEntry → World → Prop} {D : List Deferred} {x p v : Value} {c : List PanicEntry} {a : Act} {w : World} {d : Nat} (h : KQ K F D x p (.panic c) (a.put (some (d + 4)) v) w) : CoeT (KQ K F D x p (.panic c) (a.put (some (d + 4)) v) w) h (KQ K F D x p (.panic c) a w) := ⟨h.put⟩
theorem keep_alloc {w1 : World} {b c : Nat} {l : List Value} {x : Value} (ob : Obj) (h0 : ∀ o, w1.cell? ⟨b, o, none⟩ = l[o]?) (h1 : w1.cell? ⟨c, 0, none⟩ = some x) (h2 : w1.frozen? ⟨c, 0, none⟩ = false) (hb : b < w1.heap.size) (hc : c < w1.heap.size) :
    (∀ o, (w1.alloc ob).cell? ⟨b, o, none⟩ = l[o]?) ∧ (w1.alloc ob).cell? ⟨c, 0, none⟩ = some x ∧ (w1.alloc ob).frozen? ⟨c, 0, none⟩ = false :=
  ⟨fun o => (World.cell?_of_block (a := ⟨b, o, none⟩) (Below.heap_alloc _ _ _ hb)).trans (h0 o), (World.cell?_of_block (a := ⟨c, 0, none⟩) (Below.heap_alloc _ _ _ hc)).trans h1, (World.frozen?_of_block (a := ⟨c, 0, none⟩) (Below.heap_alloc _ _ _ hc)).trans h2⟩
theorem keep_set {w1 : World} {b c : Nat} {l : List Value} {x : Value} (h0 : ∀ o, w1.cell? ⟨b, o, none⟩ = l[o]?) (h1 : w1.cell? ⟨c, 0, none⟩ = some x) (h2 : w1.frozen? ⟨c, 0, none⟩ = false) (hne : ¬ b = c) :
    (∀ o, (w1.setCell ⟨c, 0, none⟩ x).cell? ⟨b, o, none⟩ = l[o]?) ∧ (w1.setCell ⟨c, 0, none⟩ x).cell? ⟨c, 0, none⟩ = some x ∧ (w1.setCell ⟨c, 0, none⟩ x).frozen? ⟨c, 0, none⟩ = false :=
  ⟨fun o => (World.cell?_of_block (a := ⟨b, o, none⟩) (Below.heap_setCell _ _ _ _ hne)).trans (h0 o), by simp [go_sem, h1], by simp [go_sem, h2]⟩
end Go.Proofs.YtkaapdnjlmceoabDoor

/- Great structs: a whole one read, written, handed back, without opening it cell by cell. -/
import Derived.Test.YtkaapdnjlmceoabDoorRStep
import Derived.Deep.MidRow
set_option linter.unusedVariables false
set_option linter.unusedSimpArgs false
namespace Go.Proofs.YtkaapdnjlmceoabDoor
open Go.RowKit
theorem setCells_heap (b k : Nat) (hk : k ≠ b) : ∀ (vs : List Value) (o : Nat) (w : World), (w.setCells b o vs).heap[k]? = w.heap[k]?
  | [], _, _ => rfl
  | v :: r, o, w => by rw [World.setCells, setCells_heap b k hk r]; exact Below.heap_setCell _ _ _ _ hk
theorem setCells_same (b : Nat) : ∀ (vs : List Value) (o : Nat) (w : World), (w.setCells b o vs).os = w.os ∧ (w.setCells b o vs).tape = w.tape ∧ (w.setCells b o vs).output = w.output ∧ (w.setCells b o vs).heap.size = w.heap.size
  | [], _, _ => ⟨rfl, rfl, rfl, rfl⟩
  | v :: r, o, w => by
    rw [World.setCells]
    obtain ⟨h1, h2, h3, h4⟩ := setCells_same b r (o + 1) (w.setCell ⟨b, o, none⟩ v)
    exact ⟨h1, h2, h3, by rw [h4]; simp [World.setCell]⟩
theorem gb_setCells {a w : World} {r : Option Nat} (h : a.grownBy w r) {b o : Nat} {vs : List Value} (hb : a.heap.size ≤ b) : a.grownBy (w.setCells b o vs) r := by
  obtain ⟨h1, h2, h3, h4⟩ := setCells_same b vs o w
  exact ⟨h1.trans h.os, h2.trans h.tape, h3.trans h.output, by rw [h4]; exact h.size, fun i hi hne => (setCells_heap b i (by omega) vs o w).trans (h.block i hi hne)⟩
theorem bl_setCells {a w : World} (h : Below a.heap.size a w) {b o : Nat} {vs : List Value} (hb : a.heap.size ≤ b) : Below a.heap.size a (w.setCells b o vs) := by
  obtain ⟨h1, h2, h3, h4⟩ := setCells_same b vs o w
  exact ⟨h1.trans h.os, h2.trans h.tape, h3.trans h.output, by rw [h4]; exact h.size, fun i hi => (setCells_heap b i (by omega) vs o w).trans (h.block i hi)⟩
namespace OwnL
variable {w : World} {b : Nat} {l : List Value}
theorem range (h : OwnL w b l) : w.rangeAt b 0 l := fun j v hv => by rw [Nat.zero_add, h.2.1, hv]
theorem there (h : OwnL w b l) : w.there b 0 l.length := fun j hj => by
  rw [Nat.zero_add]
  exact ⟨by rw [h.2.1, List.getElem?_eq_getElem hj]; rfl, h.2.2 j⟩
theorem sets (h : OwnL w b l) {vs : List Value} (hl : vs.length = l.length) : OwnL (w.setCells b 0 vs) b vs := by
  refine ⟨by rw [(setCells_same b vs 0 w).2.2.2]; exact h.1, fun o => ?_, fun o => by rw [World.frozen?_setCells]; exact h.2.2 o⟩
  by_cases ho : o < vs.length
  · have := World.rangeAt_setCells_same w b 0 vs (by rw [hl]; exact h.there) o vs[o] (List.getElem?_eq_getElem ho)
    rw [Nat.zero_add] at this
    rw [this, List.getElem?_eq_getElem ho]
  · rw [World.cell?_setCells_out b vs 0 w _ (fun _ _ => Or.inr (by simp; omega)), h.2.1, List.getElem?_eq_none (by omega), List.getElem?_eq_none (by omega)]
theorem sets_other (h : OwnL w b l) {b' o' : Nat} {vs : List Value} (hne : b ≠ b') : OwnL (w.setCells b' o' vs) b l := by
  refine ⟨by rw [(setCells_same b' vs o' w).2.2.2]; exact h.1, fun o => ?_, fun o => by rw [World.frozen?_setCells]; exact h.2.2 o⟩
  rw [World.cell?_setCells_out b' vs o' w _ (fun hb _ => absurd hb hne)]; exact h.2.1 o
end OwnL
theorem results_cell {P : Program} {fn : Func} {tmps : Array Value} {w : World} {a : Nat} {t : TypeId} {b : Nat} {l : List Value} {d : TypeDesc} (hr : fn.results = #[.cell a t]) (ht : tmps[a]? = some (.pointer (some ⟨b, 0, none⟩))) (h : OwnL w b l)
    (hu : P.underlying t = some d) (hd : d.isRow = true) (hi : (P.info? t).map (·.size) = some l.length) : (results fn tmps).run P w = .ok (.agg l.toArray) w := by
  have hv := run_loadVar_mid w b 0 t l d h.range hu hd hi
  simp [results, hr, ht, asAddr, hv]
theorem results_cell3 {P : Program} {fn : Func} {tmps : Array Value} {w : World} {a c e : Nat} {x y : Value} {t : TypeId} {b : Nat} {l : List Value} {d : TypeDesc} (hr : fn.results = #[.cell a t, .tmp c, .tmp e]) (ht : tmps[a]? = some (.pointer (some ⟨b, 0, none⟩))) (hx : tmps[c]? = some x) (hy : tmps[e]? = some y) (h : OwnL w b l)
    (hu : P.underlying t = some d) (hd : d.isRow = true) (hi : (P.info? t).map (·.size) = some l.length) : (results fn tmps).run P w = .ok (.tuple #[.agg l.toArray, x, y]) w := by
  have hv := run_loadVar_mid w b 0 t l d h.range hu hd hi
  simp [results, hr, ht, hx, hy, asAddr, hv]
end Go.Proofs.YtkaapdnjlmceoabDoor

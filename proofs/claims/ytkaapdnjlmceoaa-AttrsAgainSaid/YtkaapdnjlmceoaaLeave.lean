/- attrs: leaving a function that has deferred stop: where it panics, where it returns. -/
import Derived.Test.YtkaapdnjlmceoaaBig
import Derived.Test.YtkaapdnjlmceoaaStop
set_option linter.unusedVariables false
set_option linter.unusedSimpArgs false
namespace Go.Proofs.Ytkaapdnjlmceoaa
open Go.RowKit
/-- The deferred call of stop, at the error's cell. -/
def dStop (p : Nat) : Deferred := { target := Target.fn (Fn.func 29) #[], args := #[.pointer (some ⟨p, 0, none⟩)] }
theorem leaves_wrong {fn : Func} {tmps : Array Value} {R : Ending → World → Prop} {w : World} {p : Nat} {er : Int} (h : OwnL w p [.int .i64 0])
    (hr : ∃ v, (results fn tmps).run Try.prog ((w.setCell ⟨p, 0, none⟩ (.int .i64 er)).alloc (.cells #[.int .i64 er] 97)) = .ok v ((w.setCell ⟨p, 0, none⟩ (.int .i64 er)).alloc (.cells #[.int .i64 er] 97)) ∧ R (.returned v) ((w.setCell ⟨p, 0, none⟩ (.int .i64 er)).alloc (.cells #[.int .i64 er] 97))) :
    Leaves Try.prog fn tmps R [dStop p] (.panicking (wr er)) w := by
  refine leaves_cons (f := 29) (args := #[.pointer (some ⟨p, 0, none⟩)]) (by simp) (by simp [go_sem]) ?_
  have h0 := h.2.1 0
  have hne : ¬ p = w.heap.size := by have := h.1; omega
  refine (stop_panicking ⟨p, 0, none⟩ 0 er w (h.2.1 0) (h.2.2 0) h.1).mono ?_
  rintro e u' w3 ⟨rfl, rfl, rfl⟩
  have e : (w.alloc (.cells #[.int .i64 er] 97)).setCell ⟨p, 0, none⟩ (.int .i64 er) = (w.setCell ⟨p, 0, none⟩ (.int .i64 er)).alloc (.cells #[.int .i64 er] 97) := by
    have h1 := h.1
    simp [go_sem, hne, h1]
  rw [e]
  simp only [settle, wrDone, List.dropWhile]
  exact hr
theorem leaves_fine {fn : Func} {tmps : Array Value} {R : Ending → World → Prop} {w : World} {p : Nat}
    (hr : ∃ v, (results fn tmps).run Try.prog (w.alloc (.cells #[.int .i64 0] 97)) = .ok v (w.alloc (.cells #[.int .i64 0] 97)) ∧ R (.returned v) (w.alloc (.cells #[.int .i64 0] 97))) :
    Leaves Try.prog fn tmps R [dStop p] .returning w := by
  refine leaves_cons (f := 29) (args := #[.pointer (some ⟨p, 0, none⟩)]) (by simp) (by simp [go_sem]) ?_
  refine (stop_idle _ _).mono ?_
  rintro e u' w3 ⟨rfl, rfl, rfl⟩
  exact hr
/-- A struct, a number, and an error's cell, handed back. -/
theorem results_door {P : Program} {fn : Func} {tmps : Array Value} {w : World} {a c e : Nat} {x y : Value} {t t2 : TypeId} {b p : Nat} {l : List Value} {d : TypeDesc} (hr : fn.results = #[.cell a t, .tmp c, .cell e t2]) (ht : tmps[a]? = some (.pointer (some ⟨b, 0, none⟩))) (hx : tmps[c]? = some x) (hy : tmps[e]? = some (.pointer (some ⟨p, 0, none⟩))) (h : OwnL w b l) (h2 : OwnL w p [y])
    (hu : P.underlying t = some d) (hd : d.isRow = true) (hi : (P.info? t).map (·.size) = some l.length) (hp : ∀ w, (isAgg t2).run P w = .ok false w) : (results fn tmps).run P w = .ok (.tuple #[.agg l.toArray, x, y]) w := by
  have hv := run_loadVar_mid w b 0 t l d h.range hu hd hi
  have hq : (loadVar t2 ⟨p, 0, none⟩).run P w = .ok y w := by
    have h0 := h2.2.1 0
    simp at h0
    simp [loadVar, hp, go_sem, h0]
  simp [results, hr, ht, hx, hy, asAddr, hv, hq]
end Go.Proofs.Ytkaapdnjlmceoaa

/- attrs.PutSet: the door, whatever the mode. -/
import Derived.Test.YtkaapdnjlmceoaaDoorDPutSet
set_option linter.unusedVariables false
set_option linter.unusedSimpArgs false
namespace Go.Proofs.YtkaapdnjlmceoaaDoor
open Go.RowKit
set_option maxRecDepth 100000 in
set_option maxHeartbeats 8000000 in
theorem PutSet_bad {s : St} {w : World} (hm : ¬ s.mode ≤ 4095) : Calls Tryd.prog 8 #[eSet s] w (PutPost (.error 1) w) := by
  have hd : decide ((s.mode : Int) ≤ 4095) = false := by simp; omega
  clear hm
  simp only [eSet, St.cells]
  go_enter_defers Tryd.func8, Tryd.ntmps8
  go_wp2_with (go_at_call 17; (try rw [hd]); refine (must_no _ _).mono ?_; rintro e w' ⟨rfl, rfl⟩)
  refine leaves_cons (f := 10) (args := #[.pointer (some ⟨w.heap.size + 1, 0, none⟩)]) (by simp) (by simp [go_sem]) ?_
  refine (stop_panicking _ 0 1 _ (by simp [go_sem]) (by simp [go_sem]) (by simp)).mono ?_
  rintro e u' w3 ⟨rfl, rfl, rfl⟩
  simp (maxDischargeDepth := 8) [Leaves, settle, results, Tryd.results8, go_sem, wrDone]
  exact ⟨by (with_reducible (repeat' (first | exact Below.refl _ _ | assumption | apply bl_alloc | apply bl_drewN | apply bl_drew | refine bl_set ?_ ?_ _))) <;> (first | done | (simp; done) | (simp; omega) | omega), .inr ⟨1, rfl, rfl⟩⟩
theorem PutSet_any {s : St} {w : World} (hs : s.wf) : Calls Tryd.prog 8 #[eSet s] w (PutPost (rSet s) w) := by
  by_cases hm : s.mode ≤ 4095
  · rw [rSet, if_pos hm]; exact PutSet_go hs hm
  · rw [rSet, if_neg hm]; exact PutSet_bad hm
end Go.Proofs.YtkaapdnjlmceoaaDoor

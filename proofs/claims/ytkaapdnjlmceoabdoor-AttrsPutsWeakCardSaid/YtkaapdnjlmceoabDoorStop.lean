/- attrs.stop: what the deferred call does, where the frame returns and where it panics. -/
import Derived.Test.YtkaapdnjlmceoabDoorReader
set_option linter.unusedVariables false
set_option linter.unusedSimpArgs false
namespace Go.Proofs.YtkaapdnjlmceoabDoor
open Go.RowKit

def wrDone (e : Int) : List PanicEntry := [{ v := .iface 64 (.agg #[.int .i64 e]), recovered := true }]

theorem ta_yes (er : Int) (w : World) : (Instr.typeAssert (.iface 64 (.agg #[.int .i64 er])) 20 64 true).run Tryd.prog w = .ok (.tuple #[.agg #[.int .i64 er], .bool true]) w := by kernel_rfl
theorem ta_no (w : World) : (Instr.typeAssert .nilIface 20 64 true).run Tryd.prog w = .ok (.tuple #[.agg #[.int .i64 0], .bool false]) w := by kernel_rfl

set_option maxRecDepth 100000 in
set_option maxHeartbeats 1000000 in
theorem stop_panicking (p : Addr) (x : Int) (er : Int) (w : World) (hc : w.cell? p = some (.int .i64 x)) (hz : w.frozen? p = false) (hp : p.block < w.heap.size) :
    CallsD Tryd.prog 7 #[.pointer (some p)] (.panicking (wr er)) w fun e u' w' =>
      e = .returned (.tuple #[]) ∧ u' = .panicking (wrDone er) ∧ (w.alloc (.cells #[.int .i64 er] 64)).setCell p (.int .i64 er) = w' := by
  have hne : ¬ p.block = w.heap.size := by omega
  have hc' : (w.alloc (.cells #[.int .i64 er] 64)).cell? p = some (.int .i64 x) := (World.cell?_of_block (Below.heap_alloc w _ _ hp)).trans hc
  have hz' : (w.alloc (.cells #[.int .i64 er] 64)).frozen? p = false := (World.frozen?_of_block (Below.heap_alloc w _ _ hp)).trans hz
  refine callsD_of_wpS Tryd.func7 rfl fun c₀ cs hu => ?_
  unfold wr at hu
  apply wpS_seq
  apply wpS_region
  simp [wpOpsS, go_sem, recoverD, hu, ta_yes, Tryd.ntmps7, Exit.thenS]
  refine wpS_of_wp ?_
  simp only [Array.replicate_succ, Array.replicate_zero, List.push_toArray, List.append_toArray, List.nil_append, List.cons_append, List.setIfInBounds_toArray, List.set_cons_zero, List.set_cons_succ]
  go_wp2
  exact ⟨rfl, .panicking (wrDone er), rfl, .tuple #[], results_none rfl _ _ _, rfl, rfl, rfl⟩

set_option maxRecDepth 100000 in
set_option maxHeartbeats 1000000 in
theorem stop_idle (p : Addr) (w : World) :
    CallsD Tryd.prog 7 #[.pointer (some p)] .returning w fun e u' w' => e = .returned (.tuple #[]) ∧ u' = .returning ∧ w.alloc (.cells #[.int .i64 0] 64) = w' := by
  refine callsD_of_wpS Tryd.func7 rfl fun c₀ cs hu => ?_
  apply wpS_seq
  apply wpS_region
  simp [wpOpsS, go_sem, recoverD, hu, ta_no, Tryd.ntmps7, Exit.thenS]
  refine wpS_of_wp ?_
  simp only [Array.replicate_succ, Array.replicate_zero, List.push_toArray, List.append_toArray, List.nil_append, List.cons_append, List.setIfInBounds_toArray, List.set_cons_zero, List.set_cons_succ]
  go_wp2
  exact ⟨rfl, .returning, by cases c₀; simp_all, .tuple #[], results_none rfl _ _ _, rfl, rfl, rfl⟩
end Go.Proofs.YtkaapdnjlmceoabDoor

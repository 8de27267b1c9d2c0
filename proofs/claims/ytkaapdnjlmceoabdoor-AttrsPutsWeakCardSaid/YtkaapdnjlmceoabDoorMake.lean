/- attrs: what makes the parts: number, long, time; their function values. -/
import Derived.Test.YtkaapdnjlmceoabDoorFun
set_option linter.unusedVariables false
set_option linter.unusedSimpArgs false
namespace Go.Proofs.YtkaapdnjlmceoabDoor
open Go.RowKit
/-- What a call that makes a part comes to. -/
def MakesPost (r : Except Int (List UInt8)) (w : World) (e : Ending) (w' : World) : Prop := ∃ fv, e = .returned fv ∧ Gives w' fv r ∧ Below w.heap.size w w'
theorem cell_box {w w' : World} {v : Value} {t : TypeId} (hb : Below (w.alloc (.cells #[v] t)).heap.size (w.alloc (.cells #[v] t)) w') : w'.cell? ⟨w.heap.size, 0, none⟩ = some v := by
  have h := hb.cell (p := ⟨w.heap.size, 0, none⟩) (by simp)
  rw [h]; simp [go_sem]
theorem few_put4 (n : Nat) : Few (.ok (put4 n)) := fun c h => by injection h with h; subst h; simp
theorem few_put8 (n : Nat) : Few (.ok (put8 n)) := fun c h => by injection h with h; subst h; simp
set_option maxRecDepth 100000 in
set_option maxHeartbeats 1000000 in
theorem number1_any (g n : Nat) (hn : n < 4294967296) (w : World) (h0 : w.cell? ⟨g, 0, none⟩ = some (.int .u32 n)) : Calls Tryd.prog 62 #[.pointer (some ⟨g, 0, none⟩)] w (GivesPost (.ok (put4 n)) w) := by
  go_enter Tryd.func62, Tryd.ntmps62
  go_wp2_with (go_at_call 58; refine (Put_any n hn w).mono ?_; rintro e w1 ⟨v, rfl, o, b⟩)
  go_ret
  exact ⟨b, .inl ⟨_, _, rfl, rfl, o⟩⟩
set_option maxRecDepth 100000 in
set_option maxHeartbeats 1000000 in
theorem number_mk (n : Nat) (hn : n < 4294967296) (w : World) : Calls Tryd.prog 33 #[.int .u32 n] w (MakesPost (.ok (put4 n)) w) := by
  go_enter Tryd.func33, Tryd.ntmps33
  go_wp2
  go_ret
  exact ⟨_, rfl, ⟨_, _, rfl, enters_of Tryd.func62 (by kernel_rfl) rfl, fun w' hb => number1_any _ n hn w' (cell_box hb)⟩, by (with_reducible (repeat' (first | exact Below.refl _ _ | assumption | apply bl_alloc | apply bl_drewN | apply bl_drew | refine bl_set ?_ ?_ _))) <;> (first | done | (simp; done) | (simp; omega) | omega)⟩
set_option maxRecDepth 100000 in
set_option maxHeartbeats 1000000 in
theorem long1_any (g n : Nat) (hn : n < 18446744073709551616) (w : World) (h0 : w.cell? ⟨g, 0, none⟩ = some (.int .u64 n)) : Calls Tryd.prog 26 #[.pointer (some ⟨g, 0, none⟩)] w (GivesPost (.ok (put8 n)) w) := by
  go_enter Tryd.func26, Tryd.ntmps26
  go_wp2_with (go_at_call 27; refine (PutLong_any n hn w).mono ?_; rintro e w1 ⟨v, rfl, o, b⟩)
  go_ret
  exact ⟨b, .inl ⟨_, _, rfl, rfl, o⟩⟩
set_option maxRecDepth 100000 in
set_option maxHeartbeats 1000000 in
theorem long_mk (n : Nat) (hn : n < 18446744073709551616) (w : World) : Calls Tryd.prog 10 #[.int .u64 n] w (MakesPost (.ok (put8 n)) w) := by
  go_enter Tryd.func10, Tryd.ntmps10
  go_wp2
  go_ret
  exact ⟨_, rfl, ⟨_, _, rfl, enters_of Tryd.func26 (by kernel_rfl) rfl, fun w' hb => long1_any _ n hn w' (cell_box hb)⟩, by (with_reducible (repeat' (first | exact Below.refl _ _ | assumption | apply bl_alloc | apply bl_drewN | apply bl_drew | refine bl_set ?_ ?_ _))) <;> (first | done | (simp; done) | (simp; omega) | omega)⟩
end Go.Proofs.YtkaapdnjlmceoabDoor

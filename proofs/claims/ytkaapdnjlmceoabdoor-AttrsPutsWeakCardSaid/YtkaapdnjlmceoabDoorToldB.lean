/- attrs.told: a part, whatever is told; what it gives. -/
import Derived.Test.YtkaapdnjlmceoabDoorTold
set_option linter.unusedVariables false
set_option linter.unusedSimpArgs false
namespace Go.Proofs.YtkaapdnjlmceoabDoor
open Go.RowKit
section
variable {g : Nat} {a : At} {w : World}
set_option maxRecDepth 100000 in
set_option maxHeartbeats 4000000 in
theorem told1_kind (hl : g < w.heap.size) (hk : (a.kind == 1 || a.kind == 2 || a.kind == 5) = false) (h0 : ∀ o, w.cell? ⟨g, o, none⟩ = a.cells.toList[o]?) :
    Calls Tryd.prog 31 #[.pointer (some ⟨g, 0, none⟩)] w (GivesPost (.error 1) w) := by
  have c0 : w.cell? ⟨g, 0, none⟩ = some (.int .u32 a.kind) := h0 0
  have c1 : w.cell? ⟨g, 1, none⟩ = some (.int .u32 a.mode) := h0 1
  clear h0
  go_enter Tryd.func31, Tryd.ntmps31
  go_wp2_with (first
    | (go_at_call 32; refine Calls.mono (ContainsKinds _ _ _ (by simp [go_sem]) (by simp [go_sem]) (by simp [go_sem])) ?_; rw [hk]; rintro e w' ⟨rfl, rfl⟩)
    | (go_at_call 23; refine (must_no _ _).mono ?_; rintro e w' ⟨rfl, rfl⟩))
  exact ⟨rfl, by (with_reducible (repeat' (first | exact Below.refl _ _ | assumption | apply bl_alloc | apply bl_drewN | apply bl_drew | refine bl_set ?_ ?_ _))) <;> (first | done | (simp; done) | (simp; omega) | omega), .inr ⟨_, rfl, rfl⟩⟩
set_option maxRecDepth 100000 in
set_option maxHeartbeats 4000000 in
theorem told1_mode (hl : g < w.heap.size) (hm : ¬ a.mode ≤ 4095) (hk : (a.kind == 1 || a.kind == 2 || a.kind == 5) = true) (h0 : ∀ o, w.cell? ⟨g, o, none⟩ = a.cells.toList[o]?) :
    Calls Tryd.prog 31 #[.pointer (some ⟨g, 0, none⟩)] w (GivesPost (.error 1) w) := by
  have c0 : w.cell? ⟨g, 0, none⟩ = some (.int .u32 a.kind) := h0 0
  have c1 : w.cell? ⟨g, 1, none⟩ = some (.int .u32 a.mode) := h0 1
  have hd : decide ((a.mode : Int) ≤ 4095) = false := by simp; omega
  clear h0
  go_enter Tryd.func31, Tryd.ntmps31
  go_wp2_with (first
    | (go_at_call 32; refine Calls.mono (ContainsKinds _ _ _ (by simp [go_sem]) (by simp [go_sem]) (by simp [go_sem])) ?_; rw [hk]; rintro e w' ⟨rfl, rfl⟩)
    | (go_at_call 23; (try rw [hd]); refine (must_no _ _).mono ?_; rintro e w' ⟨rfl, rfl⟩))
  exact ⟨rfl, by (with_reducible (repeat' (first | exact Below.refl _ _ | assumption | apply bl_alloc | apply bl_drewN | apply bl_drew | refine bl_set ?_ ?_ _))) <;> (first | done | (simp; done) | (simp; omega) | omega), .inr ⟨_, rfl, rfl⟩⟩
theorem told_clos (ha : a.wf) (hl : g < w.heap.size) (h0 : ∀ o, w.cell? ⟨g, o, none⟩ = a.cells.toList[o]?) :
    Calls Tryd.prog 31 #[.pointer (some ⟨g, 0, none⟩)] w (GivesPost (rTold a) w) := by
  rcases Bool.eq_false_or_eq_true (a.kind == 1 || a.kind == 2 || a.kind == 5) with hk | hk
  · by_cases hm : a.mode ≤ 4095
    · rw [rTold, if_pos (by rw [kindOk, hk, decide_eq_true hm]; rfl)]
      exact told1_good ha hm hk hl h0
    · rw [rTold, if_neg (by rw [kindOk, hk, decide_eq_false hm]; simp)]
      exact told1_mode hl hm hk h0
  · rw [rTold, if_neg (by rw [kindOk, hk]; simp)]
    exact told1_kind hl hk h0
end
/-- What is told of a node, as a part: its bytes, or the error. -/
theorem rTold_eq (a : At) : rTold a = if a.may then .ok (putAt a) else .error 1 := by
  unfold rTold At.may
  cases hk : kindOk a.kind a.mode
  · simp
  · simp only [toldL, rTime]
    cases h1 : a.read.ok
    · simp [catP]
    · cases h2 : a.write.ok
      · simp [catP]
      · cases h3 : a.turn.ok
        · simp [catP]
        · simp [catP, putAt, At.headB, At.head]
theorem putAt_length (a : At) : (putAt a).length = 84 := by
  simp [putAt, At.headB, At.head, putTm_length]
theorem few_told (a : At) : Few (rTold a) := fun c hc => by
  rw [rTold_eq] at hc
  split at hc
  · injection hc with hc; subst hc; rw [putAt_length]; omega
  · cases hc
set_option maxRecDepth 100000 in
set_option maxHeartbeats 1000000 in
theorem told_mk {a : At} {w : World} (ha : a.wf) : Calls Tryd.prog 12 #[eAttrs a] w (MakesPost (rTold a) w) := by
  unfold eAttrs
  go_enter Tryd.func12, Tryd.ntmps12
  go_wp2
  go_ret
  refine ⟨_, rfl, ⟨_, _, rfl, enters_of Tryd.func31 (by kernel_rfl) rfl, fun w' hb => ?_⟩, by (with_reducible (repeat' (first | exact Below.refl _ _ | assumption | apply bl_alloc | apply bl_drewN | apply bl_drew | refine bl_set ?_ ?_ _))) <;> (first | done | (simp; done) | (simp; omega) | omega)⟩
  have hs := hb.size
  simp at hs
  refine told_clos ha (by omega) fun o => ?_
  rw [hb.cell (p := ⟨w.heap.size, o, none⟩) (by simp)]; simp [go_sem, At.cells]
end Go.Proofs.YtkaapdnjlmceoabDoor

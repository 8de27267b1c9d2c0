/- attrs: what makes the parts: a point of time. -/
import Derived.Test.YtkaapdnjlmceoabDoorMake
import Derived.Test.YtkaapdnjlmceoabDoorRef10
set_option linter.unusedVariables false
set_option linter.unusedSimpArgs false
namespace Go.Proofs.YtkaapdnjlmceoabDoor
open Go.RowKit
set_option maxRecDepth 100000 in
set_option maxHeartbeats 1000000 in
theorem TPut_any (t : Tm) (h1 : t.sec < 4294967296) (h2 : t.nano < 4294967296) (w : World) :
    Calls Tryd.prog 30 #[eTime t] w fun e w' => ∃ v, e = .returned v ∧ OwnB w' w.heap.size v (putTm t) ∧ Below w.heap.size w w' := by
  unfold eTime
  go_enter Tryd.func30, Tryd.ntmps30
  go_wp2_with fail
  go_region_held3 (fun wx => wx.cell? ⟨w.heap.size, 0, none⟩ = some (.int .u32 t.sec) ∧ wx.cell? ⟨w.heap.size, 1, none⟩ = some (.int .u32 t.nano)) (go_keep) (first
    | (go_at_call_of 58 (Value.int .u32 (t.sec : Int)); refine Calls.mono (Put_any _ h1 _) ?_; rintro e w1 ⟨v1, rfl, o1, b1⟩; (obtain ⟨hcx, hfx⟩ := bcell b1); (have hB1 : Below w.heap.size w w1 := bl_then (by (with_reducible (repeat' (first | exact Below.refl _ _ | assumption | apply bl_alloc | apply bl_drewN | apply bl_drew | refine bl_set ?_ ?_ _))) <;> (first | done | (simp; done) | (simp; omega) | omega)) b1); (have hz1 := b1.size); simp at hz1; (have hz1' : w.heap.size < w1.heap.size := (by omega)))
    | (go_at_call_of 58 (Value.int .u32 (t.nano : Int)); refine Calls.mono (Put_any _ h2 _) ?_; rintro e w2 ⟨v2, rfl, o2, b2⟩; (obtain ⟨hcy, hfy⟩ := bcell b2); (have o1 := o1.below b2); (have hB2 := bl_then hB1 b2); (have hz2 := b2.size); (have hz2' : w.heap.size < w2.heap.size := (by omega)))
    | (refine step_append_bytes rfl _ _ rfl rfl rfl o1 o2 (by simp) (by simp) (by simp; omega) ?_; intro v' w3 o3 b3; (have hcz : ∀ o, w3.cell? ⟨w.heap.size, o, none⟩ = w2.cell? ⟨w.heap.size, o, none⟩ := fun o => b3.cell (p := ⟨w.heap.size, o, none⟩) (by simp))))
  go_wp2
  go_ret
  exact ⟨_, rfl, o3.mono (by simp), hB2.trans (b3.mono (by simp))⟩
theorem TCheck_t (t : Tm) (w : World) : Calls Tryd.prog 29 #[.agg #[.int .u32 t.sec, .int .u32 t.nano]] w fun e w' => e = .returned (.bool t.ok) ∧ Below w.heap.size w w' := by
  refine (Check_any _ _ w).mono ?_
  rintro e w' ⟨rfl, rfl⟩
  refine ⟨?_, by (with_reducible (repeat' (first | exact Below.refl _ _ | assumption | apply bl_alloc | apply bl_drewN | apply bl_drew | refine bl_set ?_ ?_ _))) <;> (first | done | (simp; done) | (simp; omega) | omega)⟩
  have e : decide ((t.nano : Int) < 1000000000) = decide (t.nano < 1000000000) := by rw [decide_eq_decide]; omega
  rw [Tm.ok, e]
/-- A point of time as a part. -/
def rTime (t : Tm) : Except Int (List UInt8) := if t.ok then .ok (putTm t) else .error 1
theorem few_time (t : Tm) : Few (rTime t) := fun c h => by
  unfold rTime at h
  split at h
  · injection h with h; subst h; simp [putTm_length]
  · cases h
set_option maxRecDepth 100000 in
set_option maxHeartbeats 1000000 in
theorem time1_any (g : Nat) (t : Tm) (ht : t.wf) (w : World) (h0 : w.cell? ⟨g, 0, none⟩ = some (.int .u32 t.sec)) (h1 : w.cell? ⟨g, 1, none⟩ = some (.int .u32 t.nano)) (hg : g < w.heap.size) : Calls Tryd.prog 28 #[.pointer (some ⟨g, 0, none⟩)] w (GivesPost (rTime t) w) := by
  rw [rTime]
  rcases Bool.eq_false_or_eq_true t.ok with hk | hk
  · rw [if_pos hk]
    have HK := Lib.hid hk; clear hk
    go_enter Tryd.func28, Tryd.ntmps28
    go_wp2_with (first
      | (go_at_call 29; refine (TCheck_t t w).mono ?_; rw [HK.out]; rintro e w1 ⟨rfl, b1⟩; obtain ⟨hcx, hfx⟩ := bcell b1)
      | (go_at_call 23; refine (must_yes _ _).mono ?_; rintro e w' ⟨rfl, rfl⟩)
      | (go_at_call 30; refine (TPut_any t ht.1 ht.2 _).mono ?_; rintro e w2 ⟨v, rfl, o, b2⟩))
    go_ret
    exact ⟨bl_then b1 b2, .inl ⟨_, _, rfl, rfl, o.mono b1.size⟩⟩
  · rw [if_neg (by simp [hk])]
    have HK := Lib.hid hk; clear hk
    go_enter Tryd.func28, Tryd.ntmps28
    go_wp2_with (first
      | (go_at_call 29; refine (TCheck_t t w).mono ?_; rw [HK.out]; rintro e w1 ⟨rfl, b1⟩)
      | (go_at_call 23; refine (must_no _ _).mono ?_; rintro e w' ⟨rfl, rfl⟩))
    exact ⟨rfl, b1, .inr ⟨_, rfl, rfl⟩⟩
set_option maxRecDepth 100000 in
set_option maxHeartbeats 1000000 in
theorem time_mk (t : Tm) (ht : t.wf) (w : World) : Calls Tryd.prog 11 #[.agg #[.int .u32 t.sec, .int .u32 t.nano]] w (MakesPost (rTime t) w) := by
  go_enter Tryd.func11, Tryd.ntmps11
  go_wp2
  go_ret
  refine ⟨_, rfl, ⟨_, _, rfl, enters_of Tryd.func28 (by kernel_rfl) rfl, fun w' hb => time1_any _ t ht w' ?_ ?_ ?_⟩, by (with_reducible (repeat' (first | exact Below.refl _ _ | assumption | apply bl_alloc | apply bl_drewN | apply bl_drew | refine bl_set ?_ ?_ _))) <;> (first | done | (simp; done) | (simp; omega) | omega)⟩
  · rw [hb.cell (p := ⟨w.heap.size, 0, none⟩) (by simp)]; simp [go_sem]
  · rw [hb.cell (p := ⟨w.heap.size, 1, none⟩) (by simp)]; simp [go_sem]
  · have := hb.size; simp at this; omega
end Go.Proofs.YtkaapdnjlmceoabDoor

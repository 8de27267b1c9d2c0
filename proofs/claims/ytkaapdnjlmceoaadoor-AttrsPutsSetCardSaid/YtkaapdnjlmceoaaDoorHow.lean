/- attrs.how: how a time is set; attrs.told: what is told of a node: parts. -/
import Derived.Test.YtkaapdnjlmceoaaDoorMakeT
import Derived.Test.YtkaapdnjlmceoaaDoorOption
import Derived.Test.YtkaapdnjlmceoaaDoorContains
set_option linter.unusedVariables false
set_option linter.unusedSimpArgs false
namespace Go.Proofs.YtkaapdnjlmceoaaDoor
open Go.RowKit
theorem MakesPost.get {r : Except Int (List UInt8)} {w w' : World} {e : Ending} (h : MakesPost r w e w') : ∃ f cp, e = .returned (.func (.func f) #[] cp) ∧ Gives w' (.func (.func f) #[] cp) r ∧ Below w.heap.size w w' := by
  obtain ⟨fv, rfl, hg, hb⟩ := h
  obtain ⟨f, cp, rfl, _⟩ := id hg
  exact ⟨f, cp, rfl, hg, hb⟩
theorem PartsB.new {w : World} {t : TypeId} (l : List (Value × Except Int (List UInt8))) (h : ∀ p ∈ l, Gives w p.1 p.2) : PartsB (w.alloc (.cells (l.map (·.1)).toArray t)) w.heap.size (l.map (·.2)) := by
  intro i hi
  have hi' : i < l.length := by simpa using hi
  refine ⟨l[i].1, by simp, ?_, ?_⟩
  · simp [go_sem, List.getElem?_eq_getElem hi']
  · have := (h l[i] (List.getElem_mem hi')).below ((Below.refl _ w).alloc (Nat.le_refl _) (.cells (l.map (·.1)).toArray t))
    simpa using this
/-- How a time is set, as a part. -/
def rHow (h : Nat) (t : Tm) : Except Int (List UInt8) := if (decide (h ≤ 2) && (h == 2 || t == ⟨0, 0⟩)) = false then .error 1 else if h = 2 then catP [.ok (put4 h), rTime t] else .ok (put4 h)
section
variable {a b : Nat} {h : Nat} {t : Tm} {w : World}
set_option maxRecDepth 100000 in
set_option maxHeartbeats 2000000 in
theorem how1_two (ht : t.wf) (hl : a < w.heap.size) (hl2 : b < w.heap.size) (h0 : w.cell? ⟨a, 0, none⟩ = some (.int .u32 2)) (h1 : w.cell? ⟨b, 0, none⟩ = some (.int .u32 t.sec)) (h2 : w.cell? ⟨b, 1, none⟩ = some (.int .u32 t.nano)) :
    Calls Tryd.prog 61 #[.pointer (some ⟨a, 0, none⟩), .pointer (some ⟨b, 0, none⟩)] w (GivesPost (catP [.ok (put4 2), rTime t]) w) := by
  have HA := Lib.hid (fun g cap w' => all_any [.ok (put4 2), rTime t] g 2 cap rfl (by decide) (by intro r hr; simp only [List.mem_cons, List.not_mem_nil, or_false] at hr; rcases hr with rfl | rfl; exact few_put4 _; exact few_time _) w')
  go_enter Tryd.func61, Tryd.ntmps61
  go_wp2_with (first | (go_at_call 17; refine (must_yes _ _).mono ?_; rintro e w' ⟨rfl, rfl⟩))
  have hP : w.cell? ⟨a, 0, none⟩ = some (.int .u32 2) ∧ w.cell? ⟨b, 0, none⟩ = some (.int .u32 t.sec) ∧ w.cell? ⟨b, 1, none⟩ = some (.int .u32 t.nano) := ⟨h0, h1, h2⟩
  have HP := Lib.hid hP
  clear hP
  go_region_held2 (fun wx => wx.cell? ⟨a, 0, none⟩ = some (.int .u32 2) ∧ wx.cell? ⟨b, 0, none⟩ = some (.int .u32 t.sec) ∧ wx.cell? ⟨b, 1, none⟩ = some (.int .u32 t.nano)) (go_keep) (first
    | (go_at_call 20; refine Calls.mono (number_mk 2 (by decide) _) ?_; rintro e w1 hm; (obtain ⟨f1, cp1, rfl, G1, b1⟩ := hm.get); clear hm; (have hB1 : Below w.heap.size w w1 := bl_then (by (with_reducible (repeat' (first | exact Below.refl _ _ | assumption | apply bl_alloc | apply bl_drewN | apply bl_drew | refine bl_set ?_ ?_ _))) <;> (first | done | (simp; done) | (simp; omega) | omega)) b1); (have hk0 : w1.cell? ⟨a, 0, none⟩ = _ := (hB1.cell (p := ⟨a, 0, none⟩) hl).trans HP.out.1); (have hk1 : w1.cell? ⟨b, 0, none⟩ = _ := (hB1.cell (p := ⟨b, 0, none⟩) hl2).trans HP.out.2.1); (have hk2 : w1.cell? ⟨b, 1, none⟩ = _ := (hB1.cell (p := ⟨b, 1, none⟩) hl2).trans HP.out.2.2); (have hz1 := hB1.size))
    | (go_at_call 30; refine Calls.mono (time_mk t ht _) ?_; rintro e w2 hm; (obtain ⟨f2, cp2, rfl, G2, b2⟩ := hm.get); clear hm; (have hB2 : Below w.heap.size w w2 := bl_then (by (with_reducible (repeat' (first | exact Below.refl _ _ | assumption | apply bl_alloc | apply bl_drewN | apply bl_drew | refine bl_set ?_ ?_ _))) <;> (first | done | (simp; done) | (simp; omega) | omega)) b2); (have hk0 : w2.cell? ⟨a, 0, none⟩ = _ := (hB2.cell (p := ⟨a, 0, none⟩) hl).trans HP.out.1); (have hk1 : w2.cell? ⟨b, 0, none⟩ = _ := (hB2.cell (p := ⟨b, 0, none⟩) hl2).trans HP.out.2.1); (have hk2 : w2.cell? ⟨b, 1, none⟩ = _ := (hB2.cell (p := ⟨b, 1, none⟩) hl2).trans HP.out.2.2); (have hz2 := hB2.size); (have hal : a < w2.heap.size := (by omega)); (have hbl : b < w2.heap.size := (by omega)))
    | (go_at_call 18; refine Calls.mono (HA.out _ _ _ (PartsB.new [(.func (.func f1) #[] cp1, .ok (put4 2)), (.func (.func f2) #[] cp2, rTime t)] (by intro p hp; simp only [List.mem_cons, List.not_mem_nil, or_false] at hp; rcases hp with rfl | rfl; exact G1.below (by (with_reducible (repeat' (first | exact Below.refl _ _ | assumption | apply bl_alloc | apply bl_drewN | apply bl_drew | refine bl_set ?_ ?_ _))) <;> (first | done | (simp; done) | (simp; omega) | omega)); exact G2))) ?_; rintro e w3 ⟨b3, ⟨bs, v3, hr, rfl, o3⟩ | ⟨er, hr, rfl⟩⟩; rotate_left; ((have hb3 : Below w.heap.size w w3 := bl_then (by (with_reducible (repeat' (first | exact Below.refl _ _ | assumption | apply bl_alloc | apply bl_drewN | apply bl_drew | refine bl_set ?_ ?_ _))) <;> (first | done | (simp; done) | (simp; omega) | omega)) b3); exact ⟨rfl, hb3, .inr ⟨er, hr, rfl⟩⟩); ((have hB3 : Below w.heap.size w w3 := bl_then (by (with_reducible (repeat' (first | exact Below.refl _ _ | assumption | apply bl_alloc | apply bl_drewN | apply bl_drew | refine bl_set ?_ ?_ _))) <;> (first | done | (simp; done) | (simp; omega) | omega)) b3); (have hk0 : w3.cell? ⟨a, 0, none⟩ = _ := (hB3.cell (p := ⟨a, 0, none⟩) hl).trans HP.out.1); (have hk1 : w3.cell? ⟨b, 0, none⟩ = _ := (hB3.cell (p := ⟨b, 0, none⟩) hl2).trans HP.out.2.1); (have hk2 : w3.cell? ⟨b, 1, none⟩ = _ := (hB3.cell (p := ⟨b, 1, none⟩) hl2).trans HP.out.2.2); (have hz3 := b3.size); (try simp at hz3); (have HR := Lib.hid hr); clear hr)))
  go_wp2
  go_ret
  exact ⟨hB3, .inl ⟨_, _, HR.out, rfl, o3.mono (by simp; omega)⟩⟩
set_option maxRecDepth 100000 in
set_option maxHeartbeats 2000000 in
theorem how1_big (hh : 2 < h) (h0 : w.cell? ⟨a, 0, none⟩ = some (.int .u32 h)) :
    Calls Tryd.prog 61 #[.pointer (some ⟨a, 0, none⟩), .pointer (some ⟨b, 0, none⟩)] w (GivesPost (.error 1) w) := by
  go_enter Tryd.func61, Tryd.ntmps61
  go_wp2_with (first | (go_at_call 17; refine (must_no _ _).mono ?_; rintro e w' ⟨rfl, rfl⟩))
  exact ⟨rfl, by (with_reducible (repeat' (first | exact Below.refl _ _ | assumption | apply bl_alloc | apply bl_drewN | apply bl_drew | refine bl_set ?_ ?_ _))) <;> (first | done | (simp; done) | (simp; omega) | omega), .inr ⟨_, rfl, rfl⟩⟩
set_option maxRecDepth 100000 in
set_option maxHeartbeats 2000000 in
theorem how1_small (hh : h < 2) (h0 : w.cell? ⟨a, 0, none⟩ = some (.int .u32 h)) (h1 : w.cell? ⟨b, 0, none⟩ = some (.int .u32 0)) (h2 : w.cell? ⟨b, 1, none⟩ = some (.int .u32 0)) :
    Calls Tryd.prog 61 #[.pointer (some ⟨a, 0, none⟩), .pointer (some ⟨b, 0, none⟩)] w (GivesPost (.ok (put4 h)) w) := by
  have hne : (((h : Int) == 2)) = false := by simp; omega
  go_enter Tryd.func61, Tryd.ntmps61
  go_wp2_with (first
    | (go_at_call 17; refine (must_yes _ _).mono ?_; rintro e w' ⟨rfl, rfl⟩)
    | (go_at_call 58; refine (Put_any h (by omega) _).mono ?_; rintro e w1 ⟨v, rfl, o, b1⟩))
  go_ret
  exact ⟨b1, .inl ⟨_, _, rfl, rfl, o⟩⟩
set_option maxRecDepth 100000 in
set_option maxHeartbeats 2000000 in
theorem how1_odd (hh : h < 2) (hz : ¬ (t.sec = 0 ∧ t.nano = 0)) (h0 : w.cell? ⟨a, 0, none⟩ = some (.int .u32 h)) (h1 : w.cell? ⟨b, 0, none⟩ = some (.int .u32 t.sec)) (h2 : w.cell? ⟨b, 1, none⟩ = some (.int .u32 t.nano)) :
    Calls Tryd.prog 61 #[.pointer (some ⟨a, 0, none⟩), .pointer (some ⟨b, 0, none⟩)] w (GivesPost (.error 1) w) := by
  have hne : (((h : Int) == 2)) = false := by simp; omega
  go_enter Tryd.func61, Tryd.ntmps61
  go_wp2_with (first | (go_at_call 17; refine (must_no _ _).mono ?_; rintro e w' ⟨rfl, rfl⟩))
  all_goals exact ⟨rfl, by (with_reducible (repeat' (first | exact Below.refl _ _ | assumption | apply bl_alloc | apply bl_drewN | apply bl_drew | refine bl_set ?_ ?_ _))) <;> (first | done | (simp; done) | (simp; omega) | omega), .inr ⟨_, rfl, rfl⟩⟩
theorem how_clos (ht : t.wf) (hl : a < w.heap.size) (hl2 : b < w.heap.size) (h0 : w.cell? ⟨a, 0, none⟩ = some (.int .u32 h)) (h1 : w.cell? ⟨b, 0, none⟩ = some (.int .u32 t.sec)) (h2 : w.cell? ⟨b, 1, none⟩ = some (.int .u32 t.nano)) :
    Calls Tryd.prog 61 #[.pointer (some ⟨a, 0, none⟩), .pointer (some ⟨b, 0, none⟩)] w (GivesPost (rHow h t) w) := by
  rcases Nat.lt_trichotomy h 2 with hh | rfl | hh
  · by_cases hz : t.sec = 0 ∧ t.nano = 0
    · obtain ⟨s, m⟩ := t
      obtain ⟨rfl, rfl⟩ := hz
      have e : rHow h ⟨0, 0⟩ = .ok (put4 h) := by
        have h1 : h ≤ 2 := by omega
        have h2 : h ≠ 2 := by omega
        simp [rHow, h1, h2]
      rw [e]
      exact how1_small hh h0 h1 h2
    · have e : rHow h t = .error 1 := by
        have h1 : h ≤ 2 := by omega
        have h2 : h ≠ 2 := by omega
        have h3 : (t == (⟨0, 0⟩ : Tm)) = false := by
          rw [beq_eq_false_iff_ne]; rintro rfl; exact hz ⟨rfl, rfl⟩
        simp [rHow, h1, h2, h3]
      rw [e]
      exact how1_odd hh hz h0 h1 h2
  · have e : rHow 2 t = catP [.ok (put4 2), rTime t] := by simp [rHow]
    rw [e]
    exact how1_two ht hl hl2 h0 h1 h2
  · have e : rHow h t = .error 1 := by
      have h1 : ¬ h ≤ 2 := by omega
      simp [rHow, h1]
    rw [e]
    exact how1_big hh h0
end
theorem few_how (h : Nat) (t : Tm) : Few (rHow h t) := fun c hc => by
  unfold rHow at hc
  split at hc
  · cases hc
  · split at hc
    · unfold rTime at hc
      split at hc
      · simp only [catP] at hc
        injection hc with hc; subst hc; simp [putTm_length]
      · simp [catP] at hc
    · injection hc with hc; subst hc; simp
set_option maxRecDepth 100000 in
set_option maxHeartbeats 1000000 in
theorem how_mk {h : Nat} {t : Tm} {w : World} (ht : t.wf) : Calls Tryd.prog 22 #[.int .u32 h, .agg #[.int .u32 t.sec, .int .u32 t.nano]] w (MakesPost (rHow h t) w) := by
  go_enter Tryd.func22, Tryd.ntmps22
  go_wp2
  go_ret
  refine ⟨_, rfl, ⟨_, _, rfl, enters_of Tryd.func61 (by kernel_rfl) rfl, fun w' hb => ?_⟩, by (with_reducible (repeat' (first | exact Below.refl _ _ | assumption | apply bl_alloc | apply bl_drewN | apply bl_drew | refine bl_set ?_ ?_ _))) <;> (first | done | (simp; done) | (simp; omega) | omega)⟩
  have hs := hb.size
  simp at hs
  refine how_clos ht (by omega) (by omega) ?_ ?_ ?_
  · rw [hb.cell (p := ⟨w.heap.size, 0, none⟩) (by simp; omega)]; simp [go_sem]
  · rw [hb.cell (p := ⟨w.heap.size + 1, 0, none⟩) (by simp)]; simp [go_sem]
  · rw [hb.cell (p := ⟨w.heap.size + 1, 1, none⟩) (by simp)]; simp [go_sem]
end Go.Proofs.YtkaapdnjlmceoaaDoor

/- What is put is got, and what is got is put: what is to be set, what was told ahead and behind. No program in sight. -/
import Derived.Test.YtkaapdnjlmceoaaLawful
set_option linter.unusedVariables false
set_option linter.unusedSimpArgs false
namespace Go.Proofs.Ytkaapdnjlmceoaa
open Go.RowKit
theorem lawful_had4 : Lawful (pHad pNum 0) (fun x => rOpt x.2 ((x.1 : Int) == 0) [.ok (put4 x.1)]) (fun x => x.1 < 4294967296) :=
  lawful_had (z := 0) (α := Nat) (zb := fun n : Nat => (n : Int) == 0) (wf := fun n => n < 4294967296) lawful_num (by decide) (fun x hx => by simp)
theorem lawful_had8 : Lawful (pHad pLong 0) (fun x => rOpt x.2 ((x.1 : Int) == 0) [.ok (put8 x.1)]) (fun x => x.1 < 18446744073709551616) :=
  lawful_had (z := 0) (α := Nat) (zb := fun n : Nat => (n : Int) == 0) (wf := fun n => n < 18446744073709551616) lawful_long (by decide) (fun x hx => by simp)
theorem lawful_hadM : Lawful (pHad pMode 0) (fun x => rOpt x.2 ((x.1 : Int) == 0) [.ok (put4 x.1)]) (fun x => x.1 ≤ 4095) :=
  lawful_had (z := 0) (α := Nat) (zb := fun n : Nat => (n : Int) == 0) (wf := fun n => n ≤ 4095) lawful_mode (by decide) (fun x hx => by simp)
theorem lawful_set0 : Lawful pSet (fun s => catP (setL s)) (fun s => s.wf ∧ s.mode ≤ 4095) := by
  unfold pSet
  refine Lawful.bind (q2 := fun s => catP (setL s).tail) (fun s => (s.mode, s.hasMode)) lawful_hadM (fun m hm => ?_) (fun v hv => hv.2) (fun v => by rw [setL, catP_cons]; rfl)
  refine Lawful.bind (q2 := fun s => catP (setL s).tail.tail) (fun s => (s.user, s.hasUser)) lawful_had4 (fun u hu => ?_) (fun v hv => hv.1.1.2.1) (fun v => by rw [setL, List.tail_cons, catP_cons]; rfl)
  refine Lawful.bind (q2 := fun s => catP (setL s).tail.tail.tail) (fun s => (s.group, s.hasGroup)) lawful_had4 (fun g hg => ?_) (fun v hv => hv.1.1.1.2.2.1) (fun v => by rw [setL, List.tail_cons, List.tail_cons, catP_cons]; rfl)
  refine Lawful.bind (q2 := fun s => catP (setL s).tail.tail.tail.tail) (fun s => (s.size, s.hasSize)) lawful_had8 (fun z hz => ?_) (fun v hv => hv.1.1.1.1.2.2.2.1) (fun v => by rw [setL, List.tail_cons, List.tail_cons, List.tail_cons, catP_cons]; rfl)
  refine Lawful.bind (q2 := fun s => catP (setL s).tail.tail.tail.tail.tail) (fun s => (s.readHow, s.read)) lawful_how (fun r hr => ?_) (fun v hv => ⟨hv.1.1.1.1.1.2.2.2.2.1, hv.1.1.1.1.1.2.2.2.2.2.1⟩) (fun v => by rw [setL, List.tail_cons, List.tail_cons, List.tail_cons, List.tail_cons, catP_cons]; rfl)
  refine Lawful.bind (q2 := fun s => catP (setL s).tail.tail.tail.tail.tail.tail) (fun s => (s.writeHow, s.write)) lawful_how (fun w hw => ?_) (fun v hv => ⟨hv.1.1.1.1.1.1.2.2.2.2.2.2.1, hv.1.1.1.1.1.1.2.2.2.2.2.2.2⟩) (fun v => by rw [setL, List.tail_cons, List.tail_cons, List.tail_cons, List.tail_cons, List.tail_cons, catP_cons]; rfl)
  refine Lawful.pure (fun v => ⟨?_, ?_⟩) rfl
  · rintro ⟨⟨⟨⟨⟨⟨_, rfl⟩, rfl⟩, rfl⟩, rfl⟩, rfl⟩, rfl⟩
    rfl
  · rintro rfl
    exact ⟨⟨⟨⟨⟨⟨⟨⟨by have := hm; dsimp only at this ⊢; omega, hu, hg, hz, hr.1, hr.2, hw.1, hw.2⟩, hm⟩, rfl⟩, rfl⟩, rfl⟩, rfl⟩, rfl⟩, rfl⟩
theorem lawful_set : Lawful pSet rSet St.wf where
  back v bs hv h c := by
    unfold rSet at h
    split at h
    · exact lawful_set0.back v bs ⟨hv, ‹_›⟩ h c
    · cases h
  again b v k h := by
    obtain ⟨l, w, q⟩ := lawful_set0.again b v k h
    exact ⟨l, w.1, by rw [rSet, if_pos w.2]; exact q⟩
  short v bs hv h j hj := by
    unfold rSet at h
    split at h
    · exact lawful_set0.short v bs ⟨hv, ‹_›⟩ h j hj
    · cases h
/-- What was told ahead. -/
theorem lawful_before0 : Lawful pBefore (fun x => catP [.ok (put8 x.1), rTime x.2.1, rTime x.2.2]) (fun x => x.1 < 18446744073709551616 ∧ x.2.1.wf ∧ x.2.2.wf) := by
  unfold pBefore
  refine Lawful.bind (q2 := fun x => catP [rTime x.2.1, rTime x.2.2]) (fun x => x.1) lawful_long (fun s hs => ?_) (fun v hv => hv.1) (fun v => catP_cons _ _)
  refine Lawful.bind (q2 := fun x => catP [rTime x.2.2]) (fun x => x.2.1) lawful_time (fun u hu => ?_) (fun v hv => hv.1.2.1) (fun v => catP_cons _ _)
  refine Lawful.bind (q2 := fun x => catP []) (fun x => x.2.2) lawful_time (fun t ht => ?_) (fun v hv => hv.1.1.2.2) (fun v => catP_cons _ _)
  refine Lawful.pure (fun v => ⟨?_, ?_⟩) rfl
  · rintro ⟨⟨⟨_, rfl⟩, rfl⟩, rfl⟩; rfl
  · rintro rfl; exact ⟨⟨⟨⟨hs, hu, ht⟩, rfl⟩, rfl⟩, rfl⟩
theorem rOpt_parts (has zero : Bool) (rs : List (Except Int (List UInt8))) : rOpt has zero rs = rOpt has zero [catP rs] := by
  unfold rOpt; rw [catP_one]
theorem lawful_before : Lawful (pHad pBefore (0, ⟨0, 0⟩, ⟨0, 0⟩)) (fun x => rOpt x.2 (decide (x.1.1 = 0 ∧ x.1.2.1.sec = 0 ∧ x.1.2.1.nano = 0 ∧ x.1.2.2.sec = 0 ∧ x.1.2.2.nano = 0)) [.ok (put8 x.1.1), rTime x.1.2.1, rTime x.1.2.2]) (fun x => x.1.1 < 18446744073709551616 ∧ x.1.2.1.wf ∧ x.1.2.2.wf) :=
  (lawful_had (z := (0, ⟨0, 0⟩, ⟨0, 0⟩)) (zb := fun x => decide (x.1 = 0 ∧ x.2.1.sec = 0 ∧ x.2.1.nano = 0 ∧ x.2.2.sec = 0 ∧ x.2.2.nano = 0)) lawful_before0 ⟨by decide, ⟨by decide, by decide⟩, ⟨by decide, by decide⟩⟩ (fun x hx => by
    obtain ⟨s, ⟨u1, u2⟩, ⟨t1, t2⟩⟩ := x
    simp only [decide_eq_true_eq, Prod.mk.injEq, Tm.mk.injEq]
    exact ⟨fun h => ⟨h.1, ⟨h.2.1, h.2.2.1⟩, h.2.2.2.1, h.2.2.2.2⟩, fun h => ⟨h.1, h.2.1.1, h.2.1.2, h.2.2.1, h.2.2.2⟩⟩)).weaken (fun v => Iff.rfl) (fun v hv => (rOpt_parts _ _ _).symm)
theorem zeroA_wf' : At.zero.wf := by
  refine ⟨fun k => ?_, by decide, by decide, by decide, ⟨by decide, by decide⟩, ⟨by decide, by decide⟩, ⟨by decide, by decide⟩⟩
  match k with
  | 0 => decide
  | 1 => decide
  | 2 => decide
  | 3 => decide
  | 4 => decide
  | k + 5 => simp [At.head]
theorem lawful_after : Lawful (pHad pAttrs At.zero) (fun x => rOpt x.2 (x.1 == At.zero) [rTold x.1]) (fun x => x.1.wf) :=
  lawful_had (z := At.zero) (zb := fun a => a == At.zero) lawful_at zeroA_wf' (fun x hx => by simp)
theorem lawful_weak : Lawful pWeak (fun k => catP (weakL k)) Wk.wf := by
  unfold pWeak
  refine Lawful.bind (q2 := fun k => catP (weakL k).tail) (fun k => ((k.size, k.write, k.turn), k.hasBefore)) lawful_before (fun b hb => ?_) (fun v hv => ⟨hv.1, hv.2.1, hv.2.2.1⟩) (fun v => by rw [weakL, catP_cons]; rfl)
  refine Lawful.bind (q2 := fun k => catP (weakL k).tail.tail) (fun k => (k.after, k.hasAfter)) lawful_after (fun a ha => ?_) (fun v hv => hv.1.2.2.2) (fun v => by rw [weakL, List.tail_cons, catP_cons]; rfl)
  refine Lawful.pure (fun v => ⟨?_, ?_⟩) rfl
  · rintro ⟨⟨_, rfl⟩, rfl⟩; rfl
  · rintro rfl; exact ⟨⟨⟨hb.1, hb.2.1, hb.2.2, ha⟩, rfl⟩, rfl⟩
end Go.Proofs.Ytkaapdnjlmceoaa

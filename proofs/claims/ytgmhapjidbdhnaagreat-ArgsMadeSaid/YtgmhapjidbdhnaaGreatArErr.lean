/- What is to be set is refused as what nobody may ask. No program in sight. -/
import Derived.Test.YtgmhapjidbdhnaaGreatJI
set_option linter.unusedVariables false
set_option linter.unusedSimpArgs false
namespace Go.Proofs.YtgmhapjidbdhnaaGreat
open Go.RowKit
def E1 (r : Except Int (List UInt8)) : Prop := ∀ e, r = .error e → e = 1
theorem e1_ok (x : List UInt8) : E1 (.ok x) := fun e h => by cases h
theorem e1_err : E1 (.error 1) := fun e h => by injection h with h; exact h.symm
theorem e1_cat {rs : List (Except Int (List UInt8))} (h : ∀ r ∈ rs, E1 r) : E1 (catP rs) := by
  induction rs with
  | nil => exact e1_ok _
  | cons r rs ih =>
    intro e he
    rw [catP_cons] at he
    have h1 := h r (List.mem_cons_self ..)
    have h2 := ih (fun r hr => h r (List.mem_cons_of_mem _ hr))
    unfold cat2 at he
    rcases r with e1 | b
    · injection he with he
      exact he ▸ h1 e1 rfl
    · dsimp only at he
      rcases hq : catP rs with e2 | c
      · rw [hq] at he
        injection he with he
        exact he ▸ h2 e2 hq
      · rw [hq] at he
        cases he
theorem e1_time (t : Tm) : E1 (rTime t) := by
  unfold rTime
  split
  · exact e1_ok _
  · exact e1_err
theorem e1_how (h : Nat) (t : Tm) : E1 (rHow h t) := by
  unfold rHow
  split
  · exact e1_err
  · split
    · exact e1_cat (fun r hr => by
        simp only [List.mem_cons, List.not_mem_nil, or_false] at hr
        rcases hr with rfl | rfl
        · exact e1_ok _
        · exact e1_time _)
    · exact e1_ok _
theorem e1_opt (has zero : Bool) (x : List UInt8) : E1 (rOpt has zero [.ok x]) := by
  unfold rOpt
  split
  · exact e1_err
  · split
    · exact e1_ok _
    · rw [catP_one]
      exact e1_ok _
theorem e1_set (s : St) : E1 (rSet s) := by
  unfold rSet
  split
  · refine e1_cat (fun r hr => ?_)
    simp only [setL, List.mem_cons, List.not_mem_nil, or_false] at hr
    rcases hr with rfl | rfl | rfl | rfl | rfl | rfl
    all_goals first | exact e1_opt _ _ _ | exact e1_how _ _
  · exact e1_err
end Go.Proofs.YtgmhapjidbdhnaaGreat

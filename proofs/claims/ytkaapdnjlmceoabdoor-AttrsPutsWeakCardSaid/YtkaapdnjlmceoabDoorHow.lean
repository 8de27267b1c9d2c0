/- attrs.how: how a time is set; attrs.told: what is told of a node: parts. -/
import Derived.Test.YtkaapdnjlmceoabDoorMakeT
import Derived.Test.YtkaapdnjlmceoabDoorOption
import Derived.Test.YtkaapdnjlmceoabDoorContains
set_option linter.unusedVariables false
set_option linter.unusedSimpArgs false
namespace Go.Proofs.YtkaapdnjlmceoabDoor
open Go.RowKit
theorem MakesPost.get {r : Except Int (List UInt8)} {w w' : World} {e : Ending} (h : MakesPost r w e w') : ∃ f cp, e = .returned (.func (.func f) #[] cp) ∧ Gives w' (.func (.func f) #[] cp) r ∧ Below w.heap.size w w' := by
  obtain ⟨fv, rfl, hg, hb⟩ := h
  obtain ⟨f, cp, rfl, _⟩ := id hg
  exact ⟨f, cp, rfl, hg, hb⟩
theorem PartsB.new {w : World} {t : TypeId} (l : List (Value × Except Int (List UInt8))) (h : ∀ p ∈ l, Gives w p.1 p.2) : PartsB (w.alloc (.cells (l.map (·.1)).toArray t)) w.heap.size (l.map (·.2)) := by
  intro i hi
  have hi' : i < l.length := by simpa using hi
  refine ⟨l[i].1, by simp, ?_, ?_⟩
  · simp [go_sem, List.getElem?_eq_getElem hi']
  · have := (h l[i] (List.getElem_mem hi')).below ((Below.refl _ w).alloc (Nat.le_refl _) (.cells (l.map (·.1)).toArray t))
    simpa using this
/-- How a time is set, as a part. -/
def rHow (h : Nat) (t : Tm) : Except Int (List UInt8) := if (decide (h ≤ 2) && (h == 2 || t == ⟨0, 0⟩)) = false then .error 1 else if h = 2 then catP [.ok (put4 h), rTime t] else .ok (put4 h)
section
variable {a b : Nat} {h : Nat} {t : Tm} {w : World}
end
theorem few_how (h : Nat) (t : Tm) : Few (rHow h t) := fun c hc => by
  unfold rHow at hc
  split at hc
  · cases hc
  · split at hc
    · unfold rTime at hc
      split at hc
      · simp only [catP] at hc
        injection hc with hc; subst hc; simp [putTm_length]
      · simp [catP] at hc
    · injection hc with hc; subst hc; simp
end Go.Proofs.YtkaapdnjlmceoabDoor

/- attrs.PutSet: the door. Printed by gen_dput.py. -/
import Derived.Test.YtkaapdnjlmceoabDoorKeep
import Derived.Deep.RegionHeldLaw
import Derived.Test.YtkaapdnjlmceoabDoorRDoorS
set_option linter.unusedVariables false
set_option linter.unusedSimpArgs false
namespace Go.Proofs.YtkaapdnjlmceoabDoor
open Go.RowKit
def St.wf (s : St) : Prop := s.mode < 4294967296 ∧ s.user < 4294967296 ∧ s.group < 4294967296 ∧ s.size < 18446744073709551616 ∧ s.readHow < 4294967296 ∧ s.read.wf ∧ s.writeHow < 4294967296 ∧ s.write.wf
/-- The parts of what is to be set. -/
def setL (s : St) : List (Except Int (List UInt8)) := [rOpt s.hasMode ((s.mode : Int) == 0) [.ok (put4 s.mode)], rOpt s.hasUser ((s.user : Int) == 0) [.ok (put4 s.user)], rOpt s.hasGroup ((s.group : Int) == 0) [.ok (put4 s.group)], rOpt s.hasSize ((s.size : Int) == 0) [.ok (put8 s.size)], rHow s.readHow s.read, rHow s.writeHow s.write]
def rSet (s : St) : Except Int (List UInt8) := if s.mode ≤ 4095 then catP (setL s) else .error 1
theorem few_one {r : Except Int (List UInt8)} (h : Few r) : ∀ x ∈ [r], Few x := fun x hx => by
  simp only [List.mem_cons, List.not_mem_nil, or_false] at hx; subst hx; exact h
theorem few_opt4 (has zero : Bool) (n : Nat) : Few (rOpt has zero [.ok (put4 n)]) := few_opt has zero _ (fun r hr c e => by
  simp only [List.mem_cons, List.not_mem_nil, or_false] at hr; subst hr; injection e with e; subst e; simp) (by simp)
theorem few_opt8 (has zero : Bool) (n : Nat) : Few (rOpt has zero [.ok (put8 n)]) := few_opt has zero _ (fun r hr c e => by
  simp only [List.mem_cons, List.not_mem_nil, or_false] at hr; subst hr; injection e with e; subst e; simp) (by simp)
theorem few_setL (s : St) : ∀ r ∈ setL s, Few r := by
  intro r hr
  simp only [setL, List.mem_cons, List.not_mem_nil, or_false] at hr
  rcases hr with rfl | rfl | rfl | rfl | rfl | rfl
  all_goals first | exact few_opt4 _ _ _ | exact few_opt8 _ _ _ | exact few_how _ _
theorem all_set (s : St) (g cap : Nat) (w' : World) (h : PartsB w' g (setL s)) : Calls Tryd.prog 8 #[.slice (some ⟨g, 0, none⟩) 6 cap] w' (GivesPost (catP (setL s)) w') :=
  all_any (setL s) g 6 cap rfl (by omega) (few_setL s) w' h
theorem opt_one {w : World} {r : Except Int (List UInt8)} (has zero : Bool) {fv : Value} {t : TypeId} (hf : Few r) (g : Gives w fv r) {cap : Nat} :
    Calls Tryd.prog 9 #[.bool has, .bool zero, .slice (some ⟨w.heap.size, 0, none⟩) 1 cap] (w.alloc (.cells #[fv] t)) (MakesPost (rOpt has zero [r]) (w.alloc (.cells #[fv] t))) :=
  option_mk (n := 1) has zero rfl (by omega) (by omega) (few_one hf) (PartsB.new [(fv, r)] (fun p hp => by
    simp only [List.mem_cons, List.not_mem_nil, or_false] at hp; subst hp; exact g))
end Go.Proofs.YtkaapdnjlmceoabDoor

/- attrs.PutWeak: the door. Printed by gen_dput.py. -/
import Derived.Test.YtkaapdnjlmceoaaDoorDPutSet
import Derived.Deep.RegionHeldLaw
import Derived.Test.YtkaapdnjlmceoaaDoorWkDef
set_option linter.unusedVariables false
set_option linter.unusedSimpArgs false
namespace Go.Proofs.YtkaapdnjlmceoaaDoor
open Go.RowKit
def Wk.wf (k : Wk) : Prop := k.size < 18446744073709551616 ∧ k.write.wf ∧ k.turn.wf ∧ k.after.wf
/-- Is what was told ahead zero? -/
def zB (k : Wk) : Bool := decide (k.size = 0 ∧ k.write.sec = 0 ∧ k.write.nano = 0 ∧ k.turn.sec = 0 ∧ k.turn.nano = 0)
/-- The parts of what was told ahead and behind. -/
def weakL (k : Wk) : List (Except Int (List UInt8)) := [rOpt k.hasBefore (zB k) [.ok (put8 k.size), rTime k.write, rTime k.turn], rOpt k.hasAfter (k.after == At.zero) [rTold k.after]]
theorem opt_three {w : World} {r1 r2 r3 : Except Int (List UInt8)} (has zero : Bool) {v1 v2 v3 : Value} {t : TypeId} (h1 : Few r1) (h2 : Few r2) (h3 : Few r3) (g : GL w [(v1, r1), (v2, r2), (v3, r3)]) {cap : Nat} :
    Calls Tryd.prog 19 #[.bool has, .bool zero, .slice (some ⟨w.heap.size, 0, none⟩) 3 cap] (w.alloc (.cells #[v1, v2, v3] t)) (MakesPost (rOpt has zero [r1, r2, r3]) (w.alloc (.cells #[v1, v2, v3] t))) :=
  option_mk (n := 3) has zero rfl (by omega) (by omega) (fun x hx => by
    simp only [List.mem_cons, List.not_mem_nil, or_false] at hx; rcases hx with rfl | rfl | rfl
    · exact h1
    · exact h2
    · exact h3) (PartsB.new [(v1, r1), (v2, r2), (v3, r3)] g)
theorem few_weakL (k : Wk) : ∀ r ∈ weakL k, Few r := by
  intro r hr
  simp only [weakL, List.mem_cons, List.not_mem_nil, or_false] at hr
  rcases hr with rfl | rfl
  · refine few_opt _ _ _ (fun x hx c e => ?_) (by simp)
    simp only [List.mem_cons, List.not_mem_nil, or_false] at hx
    rcases hx with rfl | rfl | rfl
    · injection e with e; subst e; simp
    all_goals
      unfold rTime at e
      split at e
      · injection e with e; subst e; simp [putTm_length]
      · cases e
  · refine few_opt _ _ _ (fun x hx c e => ?_) (by simp)
    simp only [List.mem_cons, List.not_mem_nil, or_false] at hx
    subst hx
    rw [rTold_eq] at e
    split at e
    · injection e with e; subst e; rw [putAt_length]; omega
    · cases e
theorem all_weak (k : Wk) (g cap : Nat) (w' : World) (h : PartsB w' g (weakL k)) : Calls Tryd.prog 18 #[.slice (some ⟨g, 0, none⟩) 2 cap] w' (GivesPost (catP (weakL k)) w') :=
  all_any (weakL k) g 2 cap rfl (by omega) (few_weakL k) w' h
theorem told_mk_x {a : At} {w : World} (ha : a.wf) : Calls Tryd.prog 11 #[.agg #[.int .u32 a.kind, .int .u32 a.mode, .int .u32 a.links, .int .u32 a.user, .int .u32 a.group, .int .u64 a.size, .int .u64 a.used, .int .u64 a.id, .int .u32 a.read.sec, .int .u32 a.read.nano, .int .u32 a.write.sec, .int .u32 a.write.nano, .int .u32 a.turn.sec, .int .u32 a.turn.nano]] w (MakesPost (rTold a) w) := told_mk ha
set_option maxRecDepth 100000 in
set_option maxHeartbeats 4000000 in
theorem eq_attrs (a : At) (w : World) : (Op.equalIn 10000 28 (.agg #[.int .u32 a.kind, .int .u32 a.mode, .int .u32 a.links, .int .u32 a.user, .int .u32 a.group, .int .u64 a.size, .int .u64 a.used, .int .u64 a.id, .int .u32 a.read.sec, .int .u32 a.read.nano, .int .u32 a.write.sec, .int .u32 a.write.nano, .int .u32 a.turn.sec, .int .u32 a.turn.nano]) (.agg #[.int .u32 0, .int .u32 0, .int .u32 0, .int .u32 0, .int .u32 0, .int .u64 0, .int .u64 0, .int .u64 0, .int .u32 0, .int .u32 0, .int .u32 0, .int .u32 0, .int .u32 0, .int .u32 0])).run Tryd.prog w = .ok (a == At.zero) w := by
  go_simp
  obtain ⟨k, m, l, u, g, s, d, i, ⟨r1, r2⟩, ⟨w1, w2⟩, ⟨t1, t2⟩⟩ := a
  have e : ∀ b : Bool, (b = true ↔ k = 0 ∧ m = 0 ∧ l = 0 ∧ u = 0 ∧ g = 0 ∧ s = 0 ∧ d = 0 ∧ i = 0 ∧ r1 = 0 ∧ r2 = 0 ∧ w1 = 0 ∧ w2 = 0 ∧ t1 = 0 ∧ t2 = 0) → b = ((⟨k, m, l, u, g, s, d, i, ⟨r1, r2⟩, ⟨w1, w2⟩, ⟨t1, t2⟩⟩ : At) == At.zero) := fun b hb => by
    rw [Bool.eq_iff_iff, hb, beq_iff_eq]
    simp [At.zero, and_assoc]
  have E := Lib.hid e; clear e
  dsimp only
  by_cases h0 : k = 0
  case neg => rw [if_neg h0]; exact congrArg (fun b => Result.ok b w) (E.out false (by simp [*]))
  rw [if_pos h0]
  by_cases h1 : m = 0
  case neg => rw [if_neg h1]; exact congrArg (fun b => Result.ok b w) (E.out false (by simp [*]))
  rw [if_pos h1]
  by_cases h2 : l = 0
  case neg => rw [if_neg h2]; exact congrArg (fun b => Result.ok b w) (E.out false (by simp [*]))
  rw [if_pos h2]
  by_cases h3 : u = 0
  case neg => rw [if_neg h3]; exact congrArg (fun b => Result.ok b w) (E.out false (by simp [*]))
  rw [if_pos h3]
  by_cases h4 : g = 0
  case neg => rw [if_neg h4]; exact congrArg (fun b => Result.ok b w) (E.out false (by simp [*]))
  rw [if_pos h4]
  by_cases h5 : s = 0
  case neg => rw [if_neg h5]; exact congrArg (fun b => Result.ok b w) (E.out false (by simp [*]))
  rw [if_pos h5]
  by_cases h6 : d = 0
  case neg => rw [if_neg h6]; exact congrArg (fun b => Result.ok b w) (E.out false (by simp [*]))
  rw [if_pos h6]
  by_cases h7 : i = 0
  case neg => rw [if_neg h7]; exact congrArg (fun b => Result.ok b w) (E.out false (by simp [*]))
  rw [if_pos h7]
  by_cases h8 : r1 = 0
  case neg => rw [if_neg h8]; exact congrArg (fun b => Result.ok b w) (E.out false (by simp [*]))
  rw [if_pos h8]
  by_cases h9 : r2 = 0
  case neg => rw [if_neg h9]; exact congrArg (fun b => Result.ok b w) (E.out false (by simp [*]))
  rw [if_pos h9]
  by_cases h10 : w1 = 0
  case neg => rw [if_neg h10]; exact congrArg (fun b => Result.ok b w) (E.out false (by simp [*]))
  rw [if_pos h10]
  by_cases h11 : w2 = 0
  case neg => rw [if_neg h11]; exact congrArg (fun b => Result.ok b w) (E.out false (by simp [*]))
  rw [if_pos h11]
  by_cases h12 : t1 = 0
  case neg => rw [if_neg h12]; exact congrArg (fun b => Result.ok b w) (E.out false (by simp [*]))
  rw [if_pos h12]
  by_cases h13 : t2 = 0
  case neg => rw [if_neg h13]; exact congrArg (fun b => Result.ok b w) (E.out false (by simp [*]))
  rw [if_pos h13]
  exact congrArg (fun b => Result.ok b w) (E.out true (by simp [*]))
theorem eql_attrs (a : At) (w : World) : (binOp .eql 28 (.agg #[.int .u32 a.kind, .int .u32 a.mode, .int .u32 a.links, .int .u32 a.user, .int .u32 a.group, .int .u64 a.size, .int .u64 a.used, .int .u64 a.id, .int .u32 a.read.sec, .int .u32 a.read.nano, .int .u32 a.write.sec, .int .u32 a.write.nano, .int .u32 a.turn.sec, .int .u32 a.turn.nano]) (.agg #[.int .u32 0, .int .u32 0, .int .u32 0, .int .u32 0, .int .u32 0, .int .u64 0, .int .u64 0, .int .u64 0, .int .u32 0, .int .u32 0, .int .u32 0, .int .u32 0, .int .u32 0, .int .u32 0])).run Tryd.prog w = .ok (.bool (a == At.zero)) w := by
  rw [run_eql_struct, eq_attrs]; rfl
end Go.Proofs.YtkaapdnjlmceoaaDoor

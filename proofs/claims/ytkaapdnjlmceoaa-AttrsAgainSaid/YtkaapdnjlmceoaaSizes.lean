/- How many bytes what is to be set, and what was told ahead and behind, has; that each error is one. No program in sight. -/
import Derived.Test.YtkaapdnjlmceoaaLawful
set_option linter.unusedVariables false
set_option linter.unusedSimpArgs false
namespace Go.Proofs.Ytkaapdnjlmceoaa
open Go.RowKit
/-- The only error of a part is 1. -/
def Err1 (r : Except Int (List UInt8)) : Prop := ∀ e, r = .error e → e = 1
theorem Err1.ok (b : List UInt8) : Err1 (.ok b) := fun e h => by cases h
theorem Err1.catP {l : List (Except Int (List UInt8))} (h : ∀ r ∈ l, Err1 r) : Err1 (catP l) := by
  induction l with
  | nil => exact Err1.ok _
  | cons r l ih =>
    rw [catP_cons]
    have h1 := h r (List.mem_cons_self ..)
    have h2 := ih fun r hr => h r (List.mem_cons_of_mem _ hr)
    rcases r with e | b
    · intro e' he; exact h1 e' he
    · rcases hc : Go.Proofs.Ytkaapdnjlmceoaa.catP l with e | c
      · rw [hc] at h2; intro e' he; exact h2 e' he
      · exact Err1.ok _
theorem Err1.opt {has zero : Bool} {rs : List (Except Int (List UInt8))} (h : ∀ r ∈ rs, Err1 r) : Err1 (rOpt has zero rs) := by
  unfold rOpt
  split
  · intro e he; injection he with he; exact he.symm
  · split
    · exact Err1.ok _
    · have := Err1.catP h
      split
      · rename_i e hc; rw [hc] at this; exact this
      · exact Err1.ok _
theorem Err1.time (t : Tm) : Err1 (rTime t) := by
  unfold rTime
  split
  · exact Err1.ok _
  · intro e he; injection he with he; exact he.symm
theorem Err1.how (h : Nat) (t : Tm) : Err1 (rHow h t) := by
  unfold rHow
  split
  · intro e he; injection he with he; exact he.symm
  · split
    · exact Err1.catP (by simp only [List.forall_mem_cons, List.not_mem_nil, false_implies, implies_true, and_true]; exact ⟨Err1.ok _, Err1.time t⟩)
    · exact Err1.ok _
theorem Err1.told (a : At) : Err1 (rTold a) := by
  rw [rTold_eq]
  split
  · exact Err1.ok _
  · intro e he; injection he with he; exact he.symm
theorem Err1.set (s : St) : Err1 (rSet s) := by
  unfold rSet
  split
  · refine Err1.catP ?_
    simp only [setL, List.forall_mem_cons, List.not_mem_nil, false_implies, implies_true, and_true]
    exact ⟨Err1.opt (by simp [Err1]), Err1.opt (by simp [Err1]), Err1.opt (by simp [Err1]), Err1.opt (by simp [Err1]), Err1.how _ _, Err1.how _ _⟩
  · intro e he; injection he with he; exact he.symm
theorem Err1.weak (k : Wk) : Err1 (Go.Proofs.Ytkaapdnjlmceoaa.catP (weakL k)) := by
  refine Err1.catP ?_
  simp only [weakL, List.forall_mem_cons, List.not_mem_nil, false_implies, implies_true, and_true]
  refine ⟨Err1.opt ?_, Err1.opt ?_⟩
  · simp only [List.forall_mem_cons, List.not_mem_nil, false_implies, implies_true, and_true]
    exact ⟨Err1.ok _, Err1.time _, Err1.time _⟩
  · simp only [List.forall_mem_cons, List.not_mem_nil, false_implies, implies_true, and_true]
    exact Err1.told _
/-! ### lengths -/
/-- If these bytes are there, they are so many. -/
def Len (r : Except Int (List UInt8)) (n : Nat) : Prop := ∀ b, r = .ok b → b.length = n
theorem Len.cons {r : Except Int (List UInt8)} {rs : List (Except Int (List UInt8))} {n m : Nat} (h : Len r n) (h2 : Len (catP rs) m) : Len (catP (r :: rs)) (n + m) := fun b hb => by
  rw [catP_cons] at hb
  obtain ⟨x, y, e1, e2, rfl⟩ := cat2_ok hb
  rw [List.length_append, h _ e1, h2 _ e2]
theorem Len.nil : Len (catP []) 0 := fun b hb => by injection hb with hb; rw [← hb]; rfl
theorem Len.ok (b : List UInt8) : Len (.ok b) b.length := fun c h => by injection h with h; rw [h]
theorem Len.opt {has zero : Bool} {rs : List (Except Int (List UInt8))} {n : Nat} (h : Len (catP rs) n) : Len (rOpt has zero rs) (4 + if has then n else 0) := fun b hb => by
  unfold rOpt at hb
  split at hb
  · cases hb
  · split at hb
    · rename_i hh; injection hb with hb; rw [← hb, hh]; rfl
    · rename_i hh
      have : has = true := by simpa using hh
      split at hb
      · cases hb
      · rename_i c hc
        injection hb with hb
        rw [← hb, List.length_append, h _ hc, this]; rfl
theorem Len.time (t : Tm) : Len (rTime t) 8 := fun b hb => by
  unfold rTime at hb
  split at hb
  · injection hb with hb; rw [← hb]; rfl
  · cases hb
theorem Len.how (h : Nat) (t : Tm) : Len (rHow h t) (4 + if h = 2 then 8 else 0) := fun b hb => by
  unfold rHow at hb
  split at hb
  · cases hb
  · split at hb
    · rename_i hh
      rw [if_pos hh]
      exact (Len.ok (put4 h)).cons ((Len.time t).cons Len.nil) b hb
    · rename_i hh
      rw [if_neg hh]
      injection hb with hb; rw [← hb]; rfl
theorem Len.told (a : At) : Len (rTold a) 84 := fun b hb => by
  rw [rTold_eq] at hb
  split at hb
  · injection hb with hb; rw [← hb, putAt_length]
  · cases hb
def setN (s : St) : Nat := 24 + (if s.hasMode then 4 else 0) + (if s.hasUser then 4 else 0) + (if s.hasGroup then 4 else 0) + (if s.hasSize then 8 else 0) + (if s.readHow = 2 then 8 else 0) + (if s.writeHow = 2 then 8 else 0)
theorem Len.set (s : St) : Len (rSet s) (setN s) := fun b hb => by
  unfold rSet at hb
  split at hb
  · have := (Len.opt (has := s.hasMode) (zero := (s.mode : Int) == 0) ((Len.ok (put4 s.mode)).cons Len.nil)).cons ((Len.opt (has := s.hasUser) (zero := (s.user : Int) == 0) ((Len.ok (put4 s.user)).cons Len.nil)).cons ((Len.opt (has := s.hasGroup) (zero := (s.group : Int) == 0) ((Len.ok (put4 s.group)).cons Len.nil)).cons ((Len.opt (has := s.hasSize) (zero := (s.size : Int) == 0) ((Len.ok (put8 s.size)).cons Len.nil)).cons ((Len.how s.readHow s.read).cons ((Len.how s.writeHow s.write).cons Len.nil))))) b hb
    rw [this, setN]
    simp only [put4_length, put8_length, Nat.add_zero, Nat.reduceAdd]
    omega
  · cases hb
def weakN (k : Wk) : Nat := 8 + (if k.hasBefore then 24 else 0) + (if k.hasAfter then 84 else 0)
theorem Len.weak (k : Wk) : Len (catP (weakL k)) (weakN k) := fun b hb => by
  have := (Len.opt (has := k.hasBefore) (zero := zB k) ((Len.ok (put8 k.size)).cons ((Len.time k.write).cons ((Len.time k.turn).cons Len.nil)))).cons ((Len.opt (has := k.hasAfter) (zero := k.after == At.zero) ((Len.told k.after).cons Len.nil)).cons Len.nil) b hb
  rw [this, weakN]
  simp only [put8_length, Nat.add_zero, Nat.reduceAdd]
  omega
theorem setN_le (s : St) : 24 ≤ setN s ∧ setN s ≤ 60 ∧ setN s % 4 = 0 := by
  unfold setN
  split <;> split <;> split <;> split <;> split <;> split <;> decide
theorem weakN_le (k : Wk) : 8 ≤ weakN k ∧ weakN k ≤ 116 ∧ weakN k % 4 = 0 := by
  unfold weakN
  split <;> split <;> decide
end Go.Proofs.Ytkaapdnjlmceoaa

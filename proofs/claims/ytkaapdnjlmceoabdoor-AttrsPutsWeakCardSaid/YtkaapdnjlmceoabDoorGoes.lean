/- How far a parser is: what is left of it. No program in sight. -/
import Derived.Test.YtkaapdnjlmceoabDoorPureB
set_option linter.unusedVariables false
set_option linter.unusedSimpArgs false
namespace Go.Proofs.YtkaapdnjlmceoabDoor
open Go.RowKit
/-- Behind the first k bytes q is what is left of p. -/
def Goes {α : Type} (p : Ps α) (xs : List UInt8) (k : Nat) (q : Ps α) : Prop :=
  p xs = match q (xs.drop k) with | .error e => .error e | .ok (x, m) => .ok (x, k + m)
namespace Goes
variable {α β γ : Type} {p : Ps α} {xs : List UInt8} {k j : Nat}
theorem start (p : Ps α) (xs : List UInt8) : Goes p xs 0 p := by
  unfold Goes
  rw [List.drop_zero]
  rcases p xs with e | ⟨x, m⟩
  · rfl
  · simp
theorem step {a : Ps β} {f : β → Ps α} {v : β} (h : Goes p xs k (Ps.bind a f)) (ha : a (xs.drop k) = .ok (v, j)) : Goes p xs (k + j) (f v) := by
  unfold Goes at h ⊢
  rw [h, Ps.bind_ok ha, List.drop_drop]
  rcases f v (xs.drop (k + j)) with e | ⟨x, m⟩
  · rfl
  · simp [Nat.add_assoc]
theorem fail {a : Ps β} {f : β → Ps α} {e : Int} (h : Goes p xs k (Ps.bind a f)) (ha : a (xs.drop k) = .error e) : p xs = .error e := by
  unfold Goes at h
  rw [h, Ps.bind_error ha]
theorem done {x : α} (h : Goes p xs k (Ps.pure x)) : p xs = .ok (x, k) := h
theorem assoc {a : Ps β} {f : β → Ps γ} {g : γ → Ps α} (h : Goes p xs k (Ps.bind (Ps.bind a f) g)) : Goes p xs k (Ps.bind a fun v => Ps.bind (f v) g) := by
  unfold Goes at h ⊢
  rw [h]
  rcases ha : a (xs.drop k) with e | ⟨v, j⟩
  · simp [Ps.bind, ha]
  · simp only [Ps.bind, ha]
    rcases hf : f v ((xs.drop k).drop j) with e | ⟨y, m⟩
    · rfl
    · simp only [List.drop_drop, Nat.add_assoc]
      rcases g y (xs.drop (k + (j + m))) with e | ⟨z, l⟩
      · rfl
      · rfl
theorem pure_bind {x : β} {f : β → Ps α} (h : Goes p xs k (Ps.bind (Ps.pure x) f)) : Goes p xs k (f x) := by
  have := h.step (v := x) (j := 0) rfl
  simpa using this
theorem need_ok {c : Bool} {e : Int} {f : Unit → Ps α} (h : Goes p xs k (Ps.bind (Ps.need c e) f)) (hc : c = true) : Goes p xs k (f ()) := by
  have := h.step (v := ()) (j := 0) (by simp [Ps.need, hc])
  simpa using this
theorem need_bad {c : Bool} {e : Int} {f : Unit → Ps α} (h : Goes p xs k (Ps.bind (Ps.need c e) f)) (hc : c = false) : p xs = .error e := h.fail (by simp [Ps.need, hc])
end Goes
theorem Ps.bind_assoc {α β γ : Type} (a : Ps α) (f : α → Ps β) (g : β → Ps γ) : Ps.bind (Ps.bind a f) g = Ps.bind a fun v => Ps.bind (f v) g := by
  funext b
  rcases ha : a b with e | ⟨v, j⟩
  · simp [Ps.bind, ha]
  · simp only [Ps.bind, ha]
    rcases hf : f v (b.drop j) with e | ⟨y, m⟩
    · rfl
    · simp only [List.drop_drop]
      rcases g y (b.drop (j + m)) with e | ⟨z, l⟩
      · rfl
      · simp [Nat.add_assoc]
theorem Ps.pure_bind {α β : Type} (x : α) (f : α → Ps β) : Ps.bind (Ps.pure x) f = f x := by
  funext b
  simp only [Ps.bind, Ps.pure, List.drop_zero]
  rcases f x b with e | ⟨z, l⟩
  · rfl
  · simp
end Go.Proofs.YtkaapdnjlmceoabDoor

/- How far a reader that stops at its first error is: what is left of a parser. No program in sight. -/
import Derived.Test.YtkaapdnjlmceoabDoorGoes
set_option linter.unusedVariables false
set_option linter.unusedSimpArgs false
namespace Go.Proofs.YtkaapdnjlmceoabDoor
open Go.RowKit
/-- One part read: a value and further on; or an error; or it stood at an error already. -/
def RStep {α : Type} (p : Ps α) (xs : List UInt8) (k : Nat) (er : Int) (v : α) (k' : Nat) (er' : Int) : Prop :=
  (er = 0 ∧ er' = 0 ∧ ∃ j, p (xs.drop k) = .ok (v, j) ∧ k' = k + j) ∨ (er = 0 ∧ er' ≠ 0 ∧ p (xs.drop k) = .error er') ∨ (er ≠ 0 ∧ er' = er)
/-- What is left of P behind a part of it; or its error; or it stood at an error already. -/
def RInv {α : Type} (P : Ps α) (xs : List UInt8) (k0 : Nat) (er0 : Int) (k : Nat) (er : Int) (q : Ps α) : Prop :=
  (er0 = 0 ∧ er = 0 ∧ ∃ j, k = k0 + j ∧ Goes P (xs.drop k0) j q) ∨ (er0 = 0 ∧ er ≠ 0 ∧ P (xs.drop k0) = .error er) ∨ (er0 ≠ 0 ∧ er = er0)
namespace RInv
variable {α β γ : Type} {P : Ps α} {xs : List UInt8} {k0 k k' : Nat} {er0 er er' : Int}
theorem start (P : Ps α) (xs : List UInt8) (k : Nat) (er : Int) : RInv P xs k er k er P := by
  by_cases h : er = 0
  · exact .inl ⟨h, h, 0, rfl, Goes.start _ _⟩
  · exact .inr (.inr ⟨h, rfl⟩)
theorem map {q q' : Ps α} (h : RInv P xs k0 er0 k er q) (hq : ∀ j, Goes P (xs.drop k0) j q → Goes P (xs.drop k0) j q') : RInv P xs k0 er0 k er q' := by
  rcases h with ⟨h1, h2, j, h3, h4⟩ | h | h
  · exact .inl ⟨h1, h2, j, h3, hq j h4⟩
  · exact .inr (.inl h)
  · exact .inr (.inr h)
theorem assoc {a : Ps β} {f : β → Ps γ} {g : γ → Ps α} (h : RInv P xs k0 er0 k er (Ps.bind (Ps.bind a f) g)) : RInv P xs k0 er0 k er (Ps.bind a fun v => Ps.bind (f v) g) := h.map fun _ => Goes.assoc
theorem pure_bind {x : β} {f : β → Ps α} (h : RInv P xs k0 er0 k er (Ps.bind (Ps.pure x) f)) : RInv P xs k0 er0 k er (f x) := h.map fun _ => Goes.pure_bind
theorem step {a : Ps β} {f : β → Ps α} {v : β} (h : RInv P xs k0 er0 k er (Ps.bind a f)) (hs : RStep a xs k er v k' er') : RInv P xs k0 er0 k' er' (f v) := by
  rcases h with ⟨rfl, rfl, j, rfl, h4⟩ | ⟨h1, h2, h3⟩ | ⟨h1, rfl⟩
  · rcases hs with ⟨_, rfl, i, hp, rfl⟩ | ⟨_, h2, hp⟩ | ⟨h1, rfl⟩
    · refine .inl ⟨rfl, rfl, j + i, by omega, h4.step (by rw [List.drop_drop]; exact hp)⟩
    · exact .inr (.inl ⟨rfl, h2, h4.fail (by rw [List.drop_drop]; exact hp)⟩)
    · exact absurd rfl h1
  · rcases hs with ⟨h, _⟩ | ⟨h, _⟩ | ⟨_, rfl⟩
    · exact absurd h h2
    · exact absurd h h2
    · exact .inr (.inl ⟨h1, h2, h3⟩)
  · rcases hs with ⟨h, _⟩ | ⟨h, _⟩ | ⟨_, rfl⟩
    · exact absurd h h1
    · exact absurd h h1
    · exact .inr (.inr ⟨h1, rfl⟩)
theorem must {c : Bool} {f : Unit → Ps α} (h : RInv P xs k0 er0 k er (Ps.bind (Ps.need c 5) f)) : RInv P xs k0 er0 k (if er = 0 ∧ c = false then 5 else er) (f ()) := by
  refine h.step ?_
  by_cases he : er = 0
  · subst he
    cases c
    · exact .inr (.inl ⟨rfl, by simp, by simp [Ps.need]⟩)
    · exact .inl ⟨rfl, by simp, 0, by simp [Ps.need], rfl⟩
  · exact .inr (.inr ⟨he, by simp [he]⟩)
theorem had {p : Ps β} {z : β} {f : β × Bool → Ps α} {y : Bool} (h : RInv P xs k0 er0 k er (Ps.bind (pHad p z) f)) (hs : RStep pYes xs k er y k' er') :
    RInv P xs k0 er0 k' er' (Ps.bind (if y then Ps.bind p fun x => Ps.pure (x, true) else Ps.pure (z, false)) f) := h.assoc.step hs
theorem had_yes {p : Ps β} {z : β} {f : β × Bool → Ps α} {y : Bool} (hv : y = true) (h : RInv P xs k0 er0 k er (Ps.bind (if y = true then Ps.bind p fun x => Ps.pure (x, true) else Ps.pure (z, false)) f)) : RInv P xs k0 er0 k er (Ps.bind p fun x => f (x, true)) := by
  rw [if_pos hv] at h
  exact h.assoc.map fun j hj => by simpa only [Ps.pure_bind] using hj
theorem had_no {p : Ps β} {z : β} {f : β × Bool → Ps α} {y : Bool} (hv : y = false) (h : RInv P xs k0 er0 k er (Ps.bind (if y = true then Ps.bind p fun x => Ps.pure (x, true) else Ps.pure (z, false)) f)) : RInv P xs k0 er0 k er (f (z, y)) := by
  rw [if_neg (by simp [hv])] at h
  rw [hv]
  exact h.pure_bind
theorem mode {f : Nat → Ps α} {v : Nat} (h : RInv P xs k0 er0 k er (Ps.bind pMode f)) (hs : RStep pNum xs k er v k' er') :
    RInv P xs k0 er0 k' (if er' = 0 ∧ decide (v ≤ 4095) = false then 5 else er') (f v) := by
  have h1 := (h.assoc.step hs).assoc.must
  exact h1.pure_bind
theorem mode0 {f : Nat → Ps α} {v : Nat} (h : RInv P xs k0 er0 k er (Ps.bind pMode f)) (hs : RStep pNum xs k er v k' er') :
    RInv P xs k0 er0 k' er' (Ps.bind (Ps.need (decide (v ≤ 4095)) 5) fun _ => f v) := (h.assoc.step hs).assoc.map fun j hj => by simpa only [Ps.pure_bind] using hj
theorem mode1 {q : Ps α} {v : Nat} (h : RInv P xs k0 er0 k er (Ps.bind (Ps.need (decide (v ≤ 4095)) 5) fun _ => q)) (he : er' = if er = 0 ∧ decide ((v : Int) ≤ 4095) = false then 5 else er) : RInv P xs k0 er0 k er' q := by
  have e : decide ((v : Int) ≤ 4095) = decide (v ≤ 4095) := by rw [decide_eq_decide]; omega
  rw [he, e]; exact h.must
theorem how0 {f : Nat × Tm → Ps α} {v : Nat} (h : RInv P xs k0 er0 k er (Ps.bind pHow f)) (hs : RStep pNum xs k er v k' er') :
    RInv P xs k0 er0 k' er' (Ps.bind (Ps.need (decide (v ≤ 2)) 5) fun _ => Ps.bind (if v = 2 then Ps.bind pTime fun t => Ps.pure (v, t) else Ps.pure (v, ⟨0, 0⟩)) f) := (h.assoc.step hs).assoc
theorem how1 {q : Ps α} {v : Nat} (h : RInv P xs k0 er0 k er (Ps.bind (Ps.need (decide (v ≤ 2)) 5) fun _ => q)) (he : er' = if er = 0 ∧ decide ((v : Int) ≤ 2) = false then 5 else er) : RInv P xs k0 er0 k er' q := by
  have e : decide ((v : Int) ≤ 2) = decide (v ≤ 2) := by rw [decide_eq_decide]; omega
  rw [he, e]; exact h.must
theorem how {f : Nat × Tm → Ps α} {v : Nat} (h : RInv P xs k0 er0 k er (Ps.bind pHow f)) (hs : RStep pNum xs k er v k' er') :
    RInv P xs k0 er0 k' (if er' = 0 ∧ decide (v ≤ 2) = false then 5 else er') (Ps.bind (if v = 2 then Ps.bind pTime fun t => Ps.pure (v, t) else Ps.pure (v, ⟨0, 0⟩)) f) := (h.assoc.step hs).assoc.must
theorem how_to {f : Nat × Tm → Ps α} {v : Nat} (hv : v = 2) (h : RInv P xs k0 er0 k er (Ps.bind (if v = 2 then Ps.bind pTime fun t => Ps.pure (v, t) else Ps.pure (v, ⟨0, 0⟩)) f)) : RInv P xs k0 er0 k er (Ps.bind pTime fun t => f (v, t)) := by
  rw [if_pos hv] at h
  exact h.assoc.map fun j hj => by simpa only [Ps.pure_bind] using hj
theorem how_no {f : Nat × Tm → Ps α} {v : Nat} (hv : ¬ v = 2) (h : RInv P xs k0 er0 k er (Ps.bind (if v = 2 then Ps.bind pTime fun t => Ps.pure (v, t) else Ps.pure (v, ⟨0, 0⟩)) f)) : RInv P xs k0 er0 k er (f (v, ⟨0, 0⟩)) := by
  rw [if_neg hv] at h
  exact h.pure_bind
theorem done {x : α} (h : RInv P xs k0 er0 k er (Ps.pure x)) : RStep P xs k0 er0 x k er := by
  rcases h with ⟨h1, h2, j, h3, h4⟩ | h | h
  · exact .inl ⟨h1, h2, j, h4.done, h3⟩
  · exact .inr (.inl h)
  · exact .inr (.inr h)
end RInv
/-- What is left of what is to be set. -/
def sQ6 (m u g s : Nat × Bool) (r : Nat × Tm) : Ps St := Ps.bind pHow fun w => Ps.pure ⟨m.2, m.1, u.2, u.1, g.2, g.1, s.2, s.1, r.1, r.2, w.1, w.2⟩
def sQ5 (m u g s : Nat × Bool) : Ps St := Ps.bind pHow (sQ6 m u g s)
def sQ4 (m u g : Nat × Bool) : Ps St := Ps.bind (pHad pLong 0) (sQ5 m u g)
def sQ3 (m u : Nat × Bool) : Ps St := Ps.bind (pHad pNum 0) (sQ4 m u)
def sQ2 (m : Nat × Bool) : Ps St := Ps.bind (pHad pNum 0) (sQ3 m)
theorem pSet_eq : pSet = Ps.bind (pHad pMode 0) sQ2 := rfl
end Go.Proofs.YtkaapdnjlmceoabDoor

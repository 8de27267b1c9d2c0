/- Plain definitions: what is told of a node, what is to be set, what was told ahead and behind. No program in sight. -/
import Derived.Test.YtkaapdnjlmceoabDoorPure
set_option linter.unusedVariables false
set_option linter.unusedSimpArgs false
namespace Go.Proofs.YtkaapdnjlmceoabDoor
open Go.RowKit

/-- What is told of a node. -/
structure At where
  kind : Nat
  mode : Nat
  links : Nat
  user : Nat
  group : Nat
  size : Nat
  used : Nat
  id : Nat
  read : Tm
  write : Tm
  turn : Tm
  deriving DecidableEq
def At.zero : At := ⟨0, 0, 0, 0, 0, 0, 0, 0, ⟨0, 0⟩, ⟨0, 0⟩, ⟨0, 0⟩⟩
def f4 (b : List UInt8) (i : Nat) : Nat := beN ((b.drop i).take 4)
def f8 (b : List UInt8) (i : Nat) : Nat := beN ((b.drop i).take 8)
def tm (b : List UInt8) (i : Nat) : Tm := ⟨f8 b i / 4294967296, f8 b i % 4294967296⟩
def Tm.ok (t : Tm) : Bool := decide (t.nano < 1000000000)
def kindOk (k m : Nat) : Bool := (k == 1 || k == 2 || k == 5) && decide (m ≤ 4095)
theorem f4_drop (b : List UInt8) (j i : Nat) : f4 (b.drop j) i = f4 b (j + i) := by simp [f4, List.drop_drop]
theorem f8_drop (b : List UInt8) (j i : Nat) : f8 (b.drop j) i = f8 b (j + i) := by simp [f8, List.drop_drop]
theorem tm_drop (b : List UInt8) (j i : Nat) : tm (b.drop j) i = tm b (j + i) := by simp [tm, f8_drop]
def atOf (b : List UInt8) : At := ⟨f4 b 0, f4 b 4, f4 b 8, f4 b 12, f4 b 16, f8 b 20, f8 b 28, f8 b 52, tm b 60, tm b 68, tm b 76⟩
def atMay (b : List UInt8) : Bool := f8 b 36 == 0 && (f8 b 44 == 1 && ((tm b 60).ok && ((tm b 68).ok && ((tm b 76).ok && kindOk (f4 b 0) (f4 b 4)))))
/-- What is told of a node, next: 84 bytes. -/
def pAttrs : Ps At := fun b => if b.length < 84 then .error 4 else if atMay b then .ok (atOf b, 84) else .error 5
theorem pTime_ok {b : List UInt8} (h : 8 ≤ b.length) (ho : (tm b 0).ok = true) : pTime b = .ok (tm b 0, 8) := by
  have ho' : beN (b.take 8) % 4294967296 < 1000000000 := by simpa [Tm.ok, tm, f8] using ho
  rw [pTime, if_neg (by omega), if_pos ho']
  rfl
theorem pTime_bad {b : List UInt8} (h : 8 ≤ b.length) (ho : (tm b 0).ok = false) : pTime b = .error 5 := by
  have ho' : ¬ beN (b.take 8) % 4294967296 < 1000000000 := by simpa [Tm.ok, tm, f8] using ho
  rw [pTime, if_neg (by omega), if_neg ho']
def pHow : Ps (Nat × Tm) := Ps.bind pNum fun h => Ps.bind (Ps.need (decide (h ≤ 2)) 5) fun _ => if h = 2 then Ps.bind pTime fun t => Ps.pure (h, t) else Ps.pure (h, ⟨0, 0⟩)
/-- Yes, and what is had; or no, and zero. -/
def pHad {α : Type} (p : Ps α) (z : α) : Ps (α × Bool) := Ps.bind pYes fun y => if y then Ps.bind p fun x => Ps.pure (x, true) else Ps.pure (z, false)
def pMode : Ps Nat := Ps.bind pNum fun n => Ps.bind (Ps.need (decide (n ≤ 4095)) 5) fun _ => Ps.pure n
/-- What is to be set. -/
structure St where
  hasMode : Bool
  mode : Nat
  hasUser : Bool
  user : Nat
  hasGroup : Bool
  group : Nat
  hasSize : Bool
  size : Nat
  readHow : Nat
  read : Tm
  writeHow : Nat
  write : Tm
  deriving DecidableEq
def St.zero : St := ⟨false, 0, false, 0, false, 0, false, 0, 0, ⟨0, 0⟩, 0, ⟨0, 0⟩⟩
def pSet : Ps St := Ps.bind (pHad pMode 0) fun m => Ps.bind (pHad pNum 0) fun u => Ps.bind (pHad pNum 0) fun g => Ps.bind (pHad pLong 0) fun s => Ps.bind pHow fun r => Ps.bind pHow fun w =>
  Ps.pure ⟨m.2, m.1, u.2, u.1, g.2, g.1, s.2, s.1, r.1, r.2, w.1, w.2⟩
/-- What was told ahead and behind. -/
structure Wk where
  hasBefore : Bool
  size : Nat
  write : Tm
  turn : Tm
  hasAfter : Bool
  after : At
  deriving DecidableEq
def Wk.zero : Wk := ⟨false, 0, ⟨0, 0⟩, ⟨0, 0⟩, false, At.zero⟩
def pBefore : Ps (Nat × Tm × Tm) := Ps.bind pLong fun s => Ps.bind pTime fun w => Ps.bind pTime fun t => Ps.pure (s, w, t)
def pWeak : Ps Wk := Ps.bind (pHad pBefore (0, ⟨0, 0⟩, ⟨0, 0⟩)) fun b => Ps.bind (pHad pAttrs At.zero) fun a => Ps.pure ⟨b.2, b.1.1, b.1.2.1, b.1.2.2, a.2, a.1⟩

end Go.Proofs.YtkaapdnjlmceoabDoor

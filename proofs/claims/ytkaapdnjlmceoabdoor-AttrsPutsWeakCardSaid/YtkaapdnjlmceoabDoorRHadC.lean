/- attrs: how a time is set, next; what is told of a node, next, if it is. -/
import Derived.Test.YtkaapdnjlmceoabDoorRHadB
set_option linter.unusedVariables false
set_option linter.unusedSimpArgs false
namespace Go.Proofs.YtkaapdnjlmceoabDoor
open Go.RowKit
section
variable {R : Nat} {A : Option Addr} {n cap k : Nat} {xs : List UInt8} {w : World}
theorem pHow_big {b : List UInt8} {h j : Nat} (e : pNum b = .ok (h, j)) (hm : ¬ h ≤ 2) : pHow b = .error 5 := by
  rw [pHow, Ps.bind_ok e]; simp [Ps.bind, Ps.need, hm]
theorem pHow_no {b : List UInt8} {h j : Nat} (e : pNum b = .ok (h, j)) (hm : h ≤ 2) (h2 : ¬ h = 2) : pHow b = .ok ((h, ⟨0, 0⟩), j) := by
  rw [pHow, Ps.bind_ok e]; simp [Ps.bind, Ps.need, hm, h2, Ps.pure]
theorem pHow_to {b : List UInt8} {j m : Nat} {t : Tm} (e : pNum b = .ok (2, j)) (h : pTime (b.drop j) = .ok (t, m)) : pHow b = .ok ((2, t), j + m) := by
  rw [pHow, Ps.bind_ok e]; simp [Ps.bind, Ps.need, Ps.pure, h]
theorem pHow_to_bad {b : List UInt8} {j : Nat} {er : Int} (e : pNum b = .ok (2, j)) (h : pTime (b.drop j) = .error er) : pHow b = .error er := by
  rw [pHow, Ps.bind_ok e]; simp [Ps.bind, Ps.need, h]
def eHow (x : Nat × Tm) : Value := .tuple #[.int .u32 x.1, eTime x.2]
end
end Go.Proofs.YtkaapdnjlmceoabDoor

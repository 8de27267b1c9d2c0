/- A slice of bytes that came in, as the walk wants it. -/
import Derived.Test.YtkaapdnjlmceoabDoorRows
import Derived.ProofKit
import Derived.OpenShut
import Derived.ChangeOld
import Derived.Below
import Derived.Test.YtkaapdnjlmceoabDoorWords
set_option linter.unusedVariables false
set_option linter.unusedSimpArgs false
namespace Go.Proofs.YtkaapdnjlmceoabDoor
open Go.ChangeShapes Go.WideShapes Go.ChangeAt Go.RowKit

theorem own : ownKnob Tryd.prog.godebug = none := by kernel_rfl
theorem laidOut : laidOutB Tryd.prog = true := by kernel_rfl
/-- The bytes that numbers are. -/
def bytesOf (zs : List Int) : List UInt8 := zs.map fun z => UInt8.ofNat z.toNat
theorem Bs.of_row {w : World} {x : Addr} {l c : Nat} {zs : List Int} (hl : l ≤ c) (hm : c ≤ maxLen) (hz : zs.length = c) (hcell : ∀ i, i < zs.length → w.cell? (x.add i) = some (.int .u8 (zs.getD i 0))) (hwz : ∀ n ∈ zs, (Lit.int .u8 n).wf = true) :
    Bs w (some x) l (bytesOf (zs.take l)) := by
  refine ⟨by simp [bytesOf]; omega, by simp only [maxLen] at hm; omega, fun hp => ?_⟩
  have h0 := hcell 0 (by omega)
  obtain ⟨b, off, spot⟩ := x
  have hspot : spot = none := by simpa [Addr.add] using World.cell?_spot h0
  subst hspot
  refine ⟨b, off, rfl, ?_, fun j hj => ?_⟩
  · by_cases hb : b < w.heap.size
    · exact hb
    · rw [Addr.add_lit] at h0
      simp [World.cell?, Array.getElem?_eq_none (Nat.le_of_not_lt hb)] at h0
  · have h := hcell j (by omega)
    rw [Addr.add_lit] at h
    rw [h]
    have hj' : j < zs.length := by omega
    have hw := hwz zs[j] (List.getElem_mem hj')
    simp [Lit.wf, IntKind.min, IntKind.max, IntKind.signed, IntKind.bits] at hw
    have e : (bytesOf (zs.take l)).getD j 0 = UInt8.ofNat zs[j].toNat := by
      simp [bytesOf, List.getD, List.getElem?_take, hj, List.getElem?_eq_getElem hj']
    rw [e]
    simp [List.getD, List.getElem?_eq_getElem hj']
    omega
end Go.Proofs.YtkaapdnjlmceoabDoor

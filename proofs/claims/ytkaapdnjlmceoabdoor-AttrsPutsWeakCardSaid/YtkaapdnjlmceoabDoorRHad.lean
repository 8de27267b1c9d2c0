/- attrs: the reader's next Attrs where there are too few bytes; what is, next, if it is; how a time is set. -/
import Derived.Test.YtkaapdnjlmceoabDoorRAttrs
import Derived.StillTailTactics
set_option linter.unusedVariables false
set_option linter.unusedSimpArgs false
namespace Go
theorem region_tail {P : Program} {id : Nat} {Q : Exit → Act → World → Prop} {a : Act} {w : World} {l : List Oper} (n : Nat) (hm : P.follows .mixedOrders = true) (hB : Region.lexTailB .any l.toArray n = true)
    (h : ∀ w3, w.drew = w3 → wpStill P l.toArray w3 (fun a' => wpList P l.toArray Q (l.drop n) a' w3) (l.take n) a) : (Code.region id l.toArray true).wp P Q a w := wp_region_still_tail n hm hB (h _ rfl)
end Go
namespace Go.Proofs.YtkaapdnjlmceoabDoor
open Go.RowKit
section
variable {R : Nat} {A : Option Addr} {n cap k : Nat} {xs : List UInt8} {w : World}
theorem pAttrs_short {b : List UInt8} (h : b.length < 84) : pAttrs b = .error 4 := by rw [pAttrs, if_pos h]

end
end Go.Proofs.YtkaapdnjlmceoabDoor

/- times: may a point of time be, and reading one. -/
import Derived.Test.YtkaapdnjlmceoabDoorWords
set_option linter.unusedVariables false
set_option linter.unusedSimpArgs false
namespace Go.Proofs.YtkaapdnjlmceoabDoor
open Go.RowKit

theorem Check_any (s n : Int) (w : World) : Calls Tryd.prog 29 #[.agg #[.int .u32 s, .int .u32 n]] w fun e w' => e = .returned (.bool (decide (n < 1000000000))) ∧ w.alloc (.cells #[.int .u32 s, .int .u32 n] 25) = w' := by
  go_enter Tryd.func29, Tryd.ntmps29
  go_wp2
  go_ret
  exact ⟨rfl, rfl⟩
theorem Check_yes (s n : Int) (hn : n < 1000000000) (w : World) : Calls Tryd.prog 29 #[.agg #[.int .u32 s, .int .u32 n]] w fun e w' => e = .returned (.bool true) ∧ w.alloc (.cells #[.int .u32 s, .int .u32 n] 25) = w' :=
  (Check_any s n w).mono fun e w' h => ⟨by rw [h.1, decide_eq_true (by omega)], h.2⟩
theorem Check_no (s n : Int) (hn : ¬ n < 1000000000) (w : World) : Calls Tryd.prog 29 #[.agg #[.int .u32 s, .int .u32 n]] w fun e w' => e = .returned (.bool false) ∧ w.alloc (.cells #[.int .u32 s, .int .u32 n] 25) = w' :=
  (Check_any s n w).mono fun e w' h => ⟨by rw [h.1, decide_eq_false (by omega)], h.2⟩

def eTime (t : Tm) : Value := .agg #[.int .u32 t.sec, .int .u32 t.nano]
section
variable (A : Option Addr) (n cap : Nat) (xs : List UInt8) (w : World)
end
end Go.Proofs.YtkaapdnjlmceoabDoor

/- attrs.GetWeak: the door. Printed by gen_dweak.py. -/
import Derived.Test.YtkaapdnjlmceoaaLeave
import Derived.Test.YtkaapdnjlmceoaaRRefSet
import Derived.Test.YtkaapdnjlmceoaaRDoorS
import Derived.Test.YtkaapdnjlmceoaaWkDef
import Derived.Test.YtkaapdnjlmceoaaRWeak
set_option linter.unusedVariables false
set_option linter.unusedSimpArgs false
namespace Go.Proofs.Ytkaapdnjlmceoaa
open Go.RowKit
section
variable {A : Option Addr} {n cap k : Nat} {xs : List UInt8} {w w2 : World} {er : Int} {tmps : Array Value}
theorem notAgg_errno (w : World) : (isAgg 32).run Try.prog w = .ok false w := by kernel_rfl
theorem GetWeak_wrong (HZ : OwnL w2 w.heap.size [Value.bool false, .int .u64 0, .int .u32 0, .int .u32 0, .int .u32 0, .int .u32 0, .bool false, .int .u32 0, .int .u32 0, .int .u32 0, .int .u32 0, .int .u32 0, .int .u64 0, .int .u64 0, .int .u64 0, .int .u32 0, .int .u32 0, .int .u32 0, .int .u32 0, .int .u32 0, .int .u32 0]) (HE : OwnL w2 (w.heap.size + 1) [.int .i64 0]) (hb : Below w.heap.size w w2) (hp : pWeak xs = .error er) (h2 : tmps[2]? = some (.pointer (some ⟨w.heap.size, 0, none⟩))) (h3 : tmps[3]? = some (.int .i64 0)) (h4 : tmps[4]? = some (.pointer (some ⟨w.heap.size + 1, 0, none⟩))) :
    Leaves Try.prog Try.f20 tmps (GetPost pWeak eWeak Wk.zero n xs w) [dStop (w.heap.size + 1)] (.panicking (wr er)) w2 :=
  leaves_wrong HE ⟨_, results_door Try.results20 h2 h3 h4 (HZ.other (by simp)).alloc (HE.set_ (i := 0) (v := .int .i64 er) (by simp)).alloc Try.underlying43 rfl (by kernel_rfl) notAgg_errno, bl_alloc (bl_set hb (by simp) _) _, .inr ⟨er, hp, by simp [eWeak, Wk.cells, Wk.zero, At.zero]⟩⟩
theorem GetWeak_fine {v : Wk} (HZ : OwnL w2 w.heap.size [Value.bool v.hasBefore, .int .u64 v.size, .int .u32 v.write.sec, .int .u32 v.write.nano, .int .u32 v.turn.sec, .int .u32 v.turn.nano, .bool v.hasAfter, .int .u32 v.after.kind, .int .u32 v.after.mode, .int .u32 v.after.links, .int .u32 v.after.user, .int .u32 v.after.group, .int .u64 v.after.size, .int .u64 v.after.used, .int .u64 v.after.id, .int .u32 v.after.read.sec, .int .u32 v.after.read.nano, .int .u32 v.after.write.sec, .int .u32 v.after.write.nano, .int .u32 v.after.turn.sec, .int .u32 v.after.turn.nano]) (HE : OwnL w2 (w.heap.size + 1) [.int .i64 0]) (hb : Below w.heap.size w w2) (hp : pWeak xs = .ok (v, k)) (hk : k ≤ n) (h2 : tmps[2]? = some (.pointer (some ⟨w.heap.size, 0, none⟩))) (h3 : tmps[3]? = some (.int .i64 k)) (h4 : tmps[4]? = some (.pointer (some ⟨w.heap.size + 1, 0, none⟩))) :
    Leaves Try.prog Try.f20 tmps (GetPost pWeak eWeak Wk.zero n xs w) [dStop (w.heap.size + 1)] .returning w2 :=
  leaves_fine ⟨_, results_door Try.results20 h2 h3 h4 HZ.alloc HE.alloc Try.underlying43 rfl (by kernel_rfl) notAgg_errno, bl_alloc hb _, .inl ⟨v, k, hp, hk, by simp [eWeak, Wk.cells]⟩⟩
end
end Go.Proofs.Ytkaapdnjlmceoaa

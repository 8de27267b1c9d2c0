/- A whole struct read in a region, guarded or not; that a struct is equal to itself. Printed by gen_back10.py. -/
import Derived.Test.YtkaapdnjlmceoaaAlive
import Derived.Test.YtkaapdnjlmceoaaSizes
set_option linter.unusedVariables false
set_option linter.unusedSimpArgs false
namespace Go.Proofs.Ytkaapdnjlmceoaa
open Go.RowKit
theorem wpList_load_own {P : Program} {ops : Array Oper} {rest : List Oper} {op : Oper} {a : Act} {w : World} {Q : Exit → Act → World → Prop} {b : Nat} {l : List Value} (hw : Region.wanted op (yielded ops a.tmps) = true) (ty : TypeId) (x : Operand) (ho : op.op = .load ty x)
    (hx : a.eval x = .pointer (some ⟨b, 0, none⟩)) (h : OwnL w b l) (d : TypeDesc) (hu : P.underlying ty = some d) (hd : d.isRow = true) (hi : (P.info? ty).map (·.size) = some l.length)
    (hn : wpList P ops Q rest (a.put op.dst (.agg l.toArray)) w) : wpList P ops Q (op :: rest) a w :=
  wpList_step fun K hK => by
    rw [if_pos hw]
    exact wp_load_mid ty x ho b 0 hx l d h.range hu hd hi (hK _ _ hn)
theorem PutPost.two {r : Except Int (List UInt8)} {w w' : World} {e : Ending} (h : PutPost r w e w') (h1 : Err1 r) : Below w.heap.size w w' ∧ ((∃ bs A cap, r = .ok bs ∧ e = .returned (.tuple #[.slice A bs.length cap, .int .i64 0]) ∧ bs.length ≤ cap ∧ cap ≤ 9223372036854775807 ∧ Bs w' A bs.length bs ∧ OwnB w' w.heap.size (.slice A bs.length cap) bs) ∨ (r = .error 1 ∧ e = .returned (.tuple #[.slice none 0 0, .int .i64 1]))) := by
  obtain ⟨hb, ⟨bs, v, e1, e2, o⟩ | ⟨er, e1, e2⟩⟩ := h
  · obtain ⟨A, c, rfl, hc, hm, hB⟩ := o.reads
    exact ⟨hb, .inl ⟨bs, A, c, e1, e2, hc, hm, hB, o⟩⟩
  · have := h1 er e1
    subst this
    exact ⟨hb, .inr ⟨e1, e2⟩⟩
theorem PutPost.twoN {r : Except Int (List UInt8)} {w w' : World} {e : Ending} {k : Nat} (h : PutPost r w e w') (h1 : Err1 r) (hl : Len r k) : Below w.heap.size w w' ∧ ((∃ bs A cap, r = .ok bs ∧ bs.length = k ∧ e = .returned (.tuple #[.slice A k cap, .int .i64 0]) ∧ k ≤ cap ∧ cap ≤ 9223372036854775807 ∧ Bs w' A k bs ∧ OwnB w' w.heap.size (.slice A k cap) bs) ∨ (r = .error 1 ∧ e = .returned (.tuple #[.slice none 0 0, .int .i64 1]))) := by
  obtain ⟨hb, ⟨bs, A, cap, hr, he, hc, hm, hB, hO⟩ | h⟩ := h.two h1
  · have hn := hl _ hr
    subst hn
    exact ⟨hb, .inl ⟨bs, A, cap, hr, rfl, he, hc, hm, hB, hO⟩⟩
  · exact ⟨hb, .inr h⟩
theorem OwnB.base_le {w : World} {base : Nat} {v : Value} {bs : List UInt8} (h : OwnB w base v bs) (hp : 0 < bs.length) : base ≤ w.heap.size := by
  rcases h.2 with ⟨h1, h2⟩ | ⟨g1, c1, cur1, h1, h2, h3, _⟩
  · omega
  · have := (Array.getElem?_eq_some_iff.1 h3).1; omega
theorem OwnB.two {w : World} {base : Nat} {v : Value} {bs : List UInt8} (h : OwnB w base v bs) : ∃ A cap, v = .slice A bs.length cap ∧ bs.length ≤ cap ∧ Bs w A bs.length bs := by
  obtain ⟨A, c, rfl, hc, hm, hB⟩ := h.reads
  exact ⟨A, c, rfl, hc, hB⟩
set_option maxRecDepth 100000 in
theorem eqs_attrs (a : At) (w : World) : (binOp .eql 31 (.agg #[Value.int .u32 a.kind, .int .u32 a.mode, .int .u32 a.links, .int .u32 a.user, .int .u32 a.group, .int .u64 a.size, .int .u64 a.used, .int .u64 a.id, .int .u32 a.read.sec, .int .u32 a.read.nano, .int .u32 a.write.sec, .int .u32 a.write.nano, .int .u32 a.turn.sec, .int .u32 a.turn.nano]) (.agg #[Value.int .u32 a.kind, .int .u32 a.mode, .int .u32 a.links, .int .u32 a.user, .int .u32 a.group, .int .u64 a.size, .int .u64 a.used, .int .u64 a.id, .int .u32 a.read.sec, .int .u32 a.read.nano, .int .u32 a.write.sec, .int .u32 a.write.nano, .int .u32 a.turn.sec, .int .u32 a.turn.nano])).run Try.prog w = .ok (.bool true) w := by
  go_simp
set_option maxRecDepth 100000 in
theorem eqs_set (a : St) (w : World) : (binOp .eql 39 (.agg #[Value.bool a.hasMode, .int .u32 a.mode, .bool a.hasUser, .int .u32 a.user, .bool a.hasGroup, .int .u32 a.group, .bool a.hasSize, .int .u64 a.size, .int .u32 a.readHow, .int .u32 a.read.sec, .int .u32 a.read.nano, .int .u32 a.writeHow, .int .u32 a.write.sec, .int .u32 a.write.nano]) (.agg #[Value.bool a.hasMode, .int .u32 a.mode, .bool a.hasUser, .int .u32 a.user, .bool a.hasGroup, .int .u32 a.group, .bool a.hasSize, .int .u64 a.size, .int .u32 a.readHow, .int .u32 a.read.sec, .int .u32 a.read.nano, .int .u32 a.writeHow, .int .u32 a.write.sec, .int .u32 a.write.nano])).run Try.prog w = .ok (.bool true) w := by
  go_simp
set_option maxRecDepth 100000 in
set_option maxHeartbeats 4000000 in
theorem eqs_weak (a : Wk) (w : World) : (binOp .eql 43 (.agg #[Value.bool a.hasBefore, .int .u64 a.size, .int .u32 a.write.sec, .int .u32 a.write.nano, .int .u32 a.turn.sec, .int .u32 a.turn.nano, .bool a.hasAfter, .int .u32 a.after.kind, .int .u32 a.after.mode, .int .u32 a.after.links, .int .u32 a.after.user, .int .u32 a.after.group, .int .u64 a.after.size, .int .u64 a.after.used, .int .u64 a.after.id, .int .u32 a.after.read.sec, .int .u32 a.after.read.nano, .int .u32 a.after.write.sec, .int .u32 a.after.write.nano, .int .u32 a.after.turn.sec, .int .u32 a.after.turn.nano]) (.agg #[Value.bool a.hasBefore, .int .u64 a.size, .int .u32 a.write.sec, .int .u32 a.write.nano, .int .u32 a.turn.sec, .int .u32 a.turn.nano, .bool a.hasAfter, .int .u32 a.after.kind, .int .u32 a.after.mode, .int .u32 a.after.links, .int .u32 a.after.user, .int .u32 a.after.group, .int .u64 a.after.size, .int .u64 a.after.used, .int .u64 a.after.id, .int .u32 a.after.read.sec, .int .u32 a.after.read.nano, .int .u32 a.after.write.sec, .int .u32 a.after.write.nano, .int .u32 a.after.turn.sec, .int .u32 a.after.turn.nano])).run Try.prog w = .ok (.bool true) w := by
  go_simp
end Go.Proofs.Ytkaapdnjlmceoaa

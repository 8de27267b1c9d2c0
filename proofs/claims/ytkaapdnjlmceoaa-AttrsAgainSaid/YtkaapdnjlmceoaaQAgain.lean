/- Whatever the bytes, AttrsAgain answers true: what is got of them, of each of the three kinds, is put as the bytes that it had. No condition. Printed by gen_rows.py. -/
import Derived.Test.YtkaapdnjlmceoaaAlive
import Derived.Test.YtkaapdnjlmceoaaSizes
import Derived.Test.YtkaapdnjlmceoaaLawfulB
import Derived.Test.YtkaapdnjlmceoaaRDoorS
import Derived.Test.YtkaapdnjlmceoaaDWeak
import Derived.Test.YtkaapdnjlmceoaaRow
import Derived.Test.YtkaapdnjlmceoaaFlatAll
set_option linter.unusedVariables false
set_option linter.unusedSimpArgs false
namespace Go.Proofs.Ytkaapdnjlmceoaa
open Go.RowKit
theorem wpList_load_own {P : Program} {ops : Array Oper} {rest : List Oper} {op : Oper} {a : Act} {w : World} {Q : Exit → Act → World → Prop} {b : Nat} {l : List Value} (hw : Region.wanted op (yielded ops a.tmps) = true) (ty : TypeId) (x : Operand) (ho : op.op = .load ty x)
    (hx : a.eval x = .pointer (some ⟨b, 0, none⟩)) (h : OwnL w b l) (d : TypeDesc) (hu : P.underlying ty = some d) (hd : d.isRow = true) (hi : (P.info? ty).map (·.size) = some l.length)
    (hn : wpList P ops Q rest (a.put op.dst (.agg l.toArray)) w) : wpList P ops Q (op :: rest) a w :=
  wpList_step fun K hK => by
    rw [if_pos hw]
    exact wp_load_mid ty x ho b 0 hx l d h.range hu hd hi (hK _ _ hn)
theorem PutPost.two {r : Except Int (List UInt8)} {w w' : World} {e : Ending} (h : PutPost r w e w') (h1 : Err1 r) : Below w.heap.size w w' ∧ ((∃ bs A cap, r = .ok bs ∧ e = .returned (.tuple #[.slice A bs.length cap, .int .i64 0]) ∧ bs.length ≤ cap ∧ cap ≤ 9223372036854775807 ∧ Bs w' A bs.length bs ∧ OwnB w' w.heap.size (.slice A bs.length cap) bs) ∨ (r = .error 1 ∧ e = .returned (.tuple #[.slice none 0 0, .int .i64 1]))) := by
  obtain ⟨hb, ⟨bs, v, e1, e2, o⟩ | ⟨er, e1, e2⟩⟩ := h
  · obtain ⟨A, c, rfl, hc, hm, hB⟩ := o.reads
    exact ⟨hb, .inl ⟨bs, A, c, e1, e2, hc, hm, hB, o⟩⟩
  · have := h1 er e1
    subst this
    exact ⟨hb, .inr ⟨e1, e2⟩⟩
theorem PutPost.twoN {r : Except Int (List UInt8)} {w w' : World} {e : Ending} {k : Nat} (h : PutPost r w e w') (h1 : Err1 r) (hl : Len r k) : Below w.heap.size w w' ∧ ((∃ bs A cap, r = .ok bs ∧ bs.length = k ∧ e = .returned (.tuple #[.slice A k cap, .int .i64 0]) ∧ k ≤ cap ∧ cap ≤ 9223372036854775807 ∧ Bs w' A k bs ∧ OwnB w' w.heap.size (.slice A k cap) bs) ∨ (r = .error 1 ∧ e = .returned (.tuple #[.slice none 0 0, .int .i64 1]))) := by
  obtain ⟨hb, ⟨bs, A, cap, hr, he, hc, hm, hB, hO⟩ | h⟩ := h.two h1
  · have hn := hl _ hr
    subst hn
    exact ⟨hb, .inl ⟨bs, A, cap, hr, rfl, he, hc, hm, hB, hO⟩⟩
  · exact ⟨hb, .inr h⟩
theorem OwnB.base_le {w : World} {base : Nat} {v : Value} {bs : List UInt8} (h : OwnB w base v bs) (hp : 0 < bs.length) : base ≤ w.heap.size := by
  rcases h.2 with ⟨h1, h2⟩ | ⟨g1, c1, cur1, h1, h2, h3, _⟩
  · omega
  · have := (Array.getElem?_eq_some_iff.1 h3).1; omega
theorem OwnB.two {w : World} {base : Nat} {v : Value} {bs : List UInt8} (h : OwnB w base v bs) : ∃ A cap, v = .slice A bs.length cap ∧ bs.length ≤ cap ∧ Bs w A bs.length bs := by
  obtain ⟨A, c, rfl, hc, hm, hB⟩ := h.reads
  exact ⟨A, c, rfl, hc, hB⟩
set_option maxRecDepth 100000 in
theorem eqs_attrs (a : At) (w : World) : (binOp .eql 31 (.agg #[Value.int .u32 a.kind, .int .u32 a.mode, .int .u32 a.links, .int .u32 a.user, .int .u32 a.group, .int .u64 a.size, .int .u64 a.used, .int .u64 a.id, .int .u32 a.read.sec, .int .u32 a.read.nano, .int .u32 a.write.sec, .int .u32 a.write.nano, .int .u32 a.turn.sec, .int .u32 a.turn.nano]) (.agg #[Value.int .u32 a.kind, .int .u32 a.mode, .int .u32 a.links, .int .u32 a.user, .int .u32 a.group, .int .u64 a.size, .int .u64 a.used, .int .u64 a.id, .int .u32 a.read.sec, .int .u32 a.read.nano, .int .u32 a.write.sec, .int .u32 a.write.nano, .int .u32 a.turn.sec, .int .u32 a.turn.nano])).run Try.prog w = .ok (.bool true) w := by
  go_simp
set_option maxRecDepth 100000 in
theorem eqs_set (a : St) (w : World) : (binOp .eql 39 (.agg #[Value.bool a.hasMode, .int .u32 a.mode, .bool a.hasUser, .int .u32 a.user, .bool a.hasGroup, .int .u32 a.group, .bool a.hasSize, .int .u64 a.size, .int .u32 a.readHow, .int .u32 a.read.sec, .int .u32 a.read.nano, .int .u32 a.writeHow, .int .u32 a.write.sec, .int .u32 a.write.nano]) (.agg #[Value.bool a.hasMode, .int .u32 a.mode, .bool a.hasUser, .int .u32 a.user, .bool a.hasGroup, .int .u32 a.group, .bool a.hasSize, .int .u64 a.size, .int .u32 a.readHow, .int .u32 a.read.sec, .int .u32 a.read.nano, .int .u32 a.writeHow, .int .u32 a.write.sec, .int .u32 a.write.nano])).run Try.prog w = .ok (.bool true) w := by
  go_simp
set_option maxRecDepth 100000 in
set_option maxHeartbeats 4000000 in
theorem eqs_weak (a : Wk) (w : World) : (binOp .eql 43 (.agg #[Value.bool a.hasBefore, .int .u64 a.size, .int .u32 a.write.sec, .int .u32 a.write.nano, .int .u32 a.turn.sec, .int .u32 a.turn.nano, .bool a.hasAfter, .int .u32 a.after.kind, .int .u32 a.after.mode, .int .u32 a.after.links, .int .u32 a.after.user, .int .u32 a.after.group, .int .u64 a.after.size, .int .u64 a.after.used, .int .u64 a.after.id, .int .u32 a.after.read.sec, .int .u32 a.after.read.nano, .int .u32 a.after.write.sec, .int .u32 a.after.write.nano, .int .u32 a.after.turn.sec, .int .u32 a.after.turn.nano]) (.agg #[Value.bool a.hasBefore, .int .u64 a.size, .int .u32 a.write.sec, .int .u32 a.write.nano, .int .u32 a.turn.sec, .int .u32 a.turn.nano, .bool a.hasAfter, .int .u32 a.after.kind, .int .u32 a.after.mode, .int .u32 a.after.links, .int .u32 a.after.user, .int .u32 a.after.group, .int .u64 a.after.size, .int .u64 a.after.used, .int .u64 a.after.id, .int .u32 a.after.read.sec, .int .u32 a.after.read.nano, .int .u32 a.after.write.sec, .int .u32 a.after.write.nano, .int .u32 a.after.turn.sec, .int .u32 a.after.turn.nano])).run Try.prog w = .ok (.bool true) w := by
  go_simp
end Go.Proofs.Ytkaapdnjlmceoaa
namespace Go.Proofs.Ytkaapdnjlmceoaa
open Go.RowKit
/-- No error is zero. -/
def Nz {α : Type} (p : Ps α) : Prop := ∀ b e, p b = .error e → e ≠ 0
theorem Nz.pure {α : Type} (x : α) : Nz (Ps.pure x) := fun b e h => by cases h
theorem Nz.bind {α β : Type} {p : Ps α} {f : α → Ps β} (h1 : Nz p) (h2 : ∀ x, Nz (f x)) : Nz (Ps.bind p f) := fun b e h => by
  unfold Ps.bind at h
  rcases e1 : p b with e' | ⟨x, j⟩
  · rw [e1] at h; injection h with h; subst h; exact h1 _ _ e1
  · rw [e1] at h
    dsimp only at h
    rcases e2 : f x (b.drop j) with e' | ⟨y, m⟩
    · rw [e2] at h; injection h with h; subst h; exact h2 _ _ _ e2
    · rw [e2] at h; cases h
theorem Nz.need (c : Bool) (e : Int) (he : e ≠ 0) : Nz (Ps.need c e) := fun b e' h => by
  unfold Ps.need at h
  split at h
  · cases h
  · injection h with h; subst h; exact he
theorem nz_num : Nz pNum := fun b e h => by
  unfold pNum at h; split at h
  · injection h with h; subst h; decide
  · cases h
theorem nz_long : Nz pLong := fun b e h => by
  unfold pLong at h; split at h
  · injection h with h; subst h; decide
  · cases h
theorem nz_yes : Nz pYes := fun b e h => by
  unfold pYes at h; split at h
  · injection h with h; subst h; decide
  · split at h
    · injection h with h; subst h; decide
    · cases h
theorem nz_time : Nz pTime := fun b e h => by
  unfold pTime at h; split at h
  · injection h with h; subst h; decide
  · split at h
    · cases h
    · injection h with h; subst h; decide
theorem nz_at : Nz pAttrs := fun b e h => by
  unfold pAttrs at h; split at h
  · injection h with h; subst h; decide
  · split at h
    · cases h
    · injection h with h; subst h; decide
theorem nz_how : Nz pHow := Nz.bind nz_num fun h => Nz.bind (Nz.need _ _ (by decide)) fun _ => by
  split
  · exact Nz.bind nz_time fun _ => Nz.pure _
  · exact Nz.pure _
theorem nz_had {α : Type} {p : Ps α} (z : α) (h : Nz p) : Nz (pHad p z) := Nz.bind nz_yes fun y => by
  split
  · exact Nz.bind h fun _ => Nz.pure _
  · exact Nz.pure _
theorem nz_mode : Nz pMode := Nz.bind nz_num fun _ => Nz.bind (Nz.need _ _ (by decide)) fun _ => Nz.pure _
theorem nz_set : Nz pSet := Nz.bind (nz_had _ nz_mode) fun _ => Nz.bind (nz_had _ nz_num) fun _ => Nz.bind (nz_had _ nz_num) fun _ => Nz.bind (nz_had _ nz_long) fun _ => Nz.bind nz_how fun _ => Nz.bind nz_how fun _ => Nz.pure _
theorem nz_before : Nz pBefore := Nz.bind nz_long fun _ => Nz.bind nz_time fun _ => Nz.bind nz_time fun _ => Nz.pure _
theorem nz_weak : Nz pWeak := Nz.bind (nz_had _ nz_before) fun _ => Nz.bind (nz_had _ nz_at) fun _ => Nz.pure _
/-- What was got: a value and how many bytes it had, or zero and none. -/
def Got {α : Type} (p : Ps α) (z : α) (xs : List UInt8) (v : α) (k : Nat) (er : Int) : Prop := (er = 0 ∧ p xs = .ok (v, k)) ∨ (er ≠ 0 ∧ k = 0 ∧ v = z)
theorem GetPost.got {α : Type} {p : Ps α} {enc : α → Value} {z : α} {n : Nat} {xs : List UInt8} {w w' : World} {e : Ending} (h : GetPost p enc z n xs w e w') (hn : Nz p) :
    ∃ (v : α) (k : Nat) (er : Int), e = .returned (.tuple #[enc v, .int .i64 k, .int .i64 er]) ∧ k ≤ n ∧ Got p z xs v k er ∧ Below w.heap.size w w' := by
  obtain ⟨hb, ⟨v, k, e1, hk, e2⟩ | ⟨er, e1, e2⟩⟩ := h
  · exact ⟨v, k, 0, e2, hk, .inl ⟨rfl, e1⟩, hb⟩
  · exact ⟨z, 0, er, e2, Nat.zero_le _, .inr ⟨hn _ _ e1, rfl, rfl⟩, hb⟩
theorem Got.wf {α : Type} {p : Ps α} {q : α → Except Int (List UInt8)} {wf : α → Prop} {z v : α} {xs : List UInt8} {k : Nat} {er : Int} (h : Got p z xs v k er) (hl : Lawful p q wf) (hz : wf z) : wf v := by
  rcases h with ⟨_, h⟩ | ⟨_, _, rfl⟩
  · exact (hl.again _ _ _ h).2.1
  · exact hz
/-- What is put of what was got. -/
theorem PutPost.again {α : Type} {p : Ps α} {q : α → Except Int (List UInt8)} {wf : α → Prop} {z v : α} {xs : List UInt8} {k : Nat} {er : Int} (hg : Got p z xs v k er) (hl : Lawful p q wf) (h1 : Err1 (q v)) {w w' : World} {e : Ending} (h : PutPost (q v) w e w') :
    ∃ (A : Option Addr) (l c : Nat) (h : Int) (bs : List UInt8), e = .returned (.tuple #[.slice A l c, .int .i64 h]) ∧ Bs w' A l bs ∧ Hid (er = 0 → h = 0 ∧ bs = xs.take k) ∧ Below w.heap.size w w' := by
  obtain ⟨hb, ⟨bs, A, cap, hr, he, hc, hm, hB, hO⟩ | ⟨hr, he⟩⟩ := h.two h1
  · refine ⟨A, bs.length, cap, 0, bs, he, hB, Lib.hid fun h0 => ⟨rfl, ?_⟩, hb⟩
    rcases hg with ⟨_, h⟩ | ⟨h, _⟩
    · have := (hl.again _ _ _ h).2.2
      rw [hr] at this; injection this
    · exact absurd h0 h
  · refine ⟨none, 0, 0, 1, [], he, Bs.nil _ _, Lib.hid fun h0 => ?_, hb⟩
    rcases hg with ⟨_, h⟩ | ⟨h, _⟩
    · have := (hl.again _ _ _ h).2.2
      rw [hr] at this; cases this
    · exact absurd h0 h
theorem zeroS_wf : St.zero.wf := ⟨by decide, by decide, by decide, by decide, by decide, ⟨by decide, by decide⟩, by decide, ⟨by decide, by decide⟩⟩
theorem zeroW_wf : Wk.zero.wf := ⟨by decide, ⟨by decide, by decide⟩, ⟨by decide, by decide⟩, zeroA_wf'⟩
set_option maxRecDepth 100000 in
theorem eqz_attrs (w : World) : (binOp .eql 31 (.agg #[Value.int .u32 0, .int .u32 0, .int .u32 0, .int .u32 0, .int .u32 0, .int .u64 0, .int .u64 0, .int .u64 0, .int .u32 0, .int .u32 0, .int .u32 0, .int .u32 0, .int .u32 0, .int .u32 0]) (.agg #[Value.int .u32 0, .int .u32 0, .int .u32 0, .int .u32 0, .int .u32 0, .int .u64 0, .int .u64 0, .int .u64 0, .int .u32 0, .int .u32 0, .int .u32 0, .int .u32 0, .int .u32 0, .int .u32 0])).run Try.prog w = .ok (.bool true) w := by
  go_simp
set_option maxRecDepth 100000 in
theorem eqz_set (w : World) : (binOp .eql 39 (.agg #[Value.bool false, .int .u32 0, .bool false, .int .u32 0, .bool false, .int .u32 0, .bool false, .int .u64 0, .int .u32 0, .int .u32 0, .int .u32 0, .int .u32 0, .int .u32 0, .int .u32 0]) (.agg #[Value.bool false, .int .u32 0, .bool false, .int .u32 0, .bool false, .int .u32 0, .bool false, .int .u64 0, .int .u32 0, .int .u32 0, .int .u32 0, .int .u32 0, .int .u32 0, .int .u32 0])).run Try.prog w = .ok (.bool true) w := by
  go_simp
set_option maxRecDepth 100000 in
theorem eqz_weak (w : World) : (binOp .eql 43 (.agg #[Value.bool false, .int .u64 0, .int .u32 0, .int .u32 0, .int .u32 0, .int .u32 0, .bool false, .int .u32 0, .int .u32 0, .int .u32 0, .int .u32 0, .int .u32 0, .int .u64 0, .int .u64 0, .int .u64 0, .int .u32 0, .int .u32 0, .int .u32 0, .int .u32 0, .int .u32 0, .int .u32 0]) (.agg #[Value.bool false, .int .u64 0, .int .u32 0, .int .u32 0, .int .u32 0, .int .u32 0, .bool false, .int .u32 0, .int .u32 0, .int .u32 0, .int .u32 0, .int .u32 0, .int .u64 0, .int .u64 0, .int .u64 0, .int .u32 0, .int .u32 0, .int .u32 0, .int .u32 0, .int .u32 0, .int .u32 0])).run Try.prog w = .ok (.bool true) w := by
  go_simp
end Go.Proofs.Ytkaapdnjlmceoaa
namespace Go.Proofs.Ytkaapdnjlmceoaa
open Go.RowKit
section
variable {w : World}
set_option maxRecDepth 100000 in
set_option maxHeartbeats 16000000 in
theorem LAttrsAgain {A : Option Addr} {n cap : Nat} {xs : List UInt8} (hX : Bs w A n xs) (hnc : n ≤ cap) (hnil : A = none → cap = 0) :
    Calls Try.prog 12 #[.slice A n cap] w fun e w' => e = .returned (.bool true) ∧ Below w.heap.size w w' := by
  have hn := hX.2.1
  have HX := Lib.hid hX
  clear hX
  by_cases hb : 1048576 < n
  · have hd := Lib.hid (decide_eq_true hb)
    clear hb
    go_enter Try.func12, Try.ntmps12
    go_wp2_with (first
      | (go_at_call 22; refine Calls.mono alive_any ?_; rintro e w1 ⟨rfl, b1⟩; (have hB : Below w.heap.size w _ := bl_then (by (with_reducible (repeat' (first | exact Below.refl _ _ | assumption | apply bl_alloc | apply bl_drewN | apply bl_drew | refine bl_set ?_ ?_ _))) <;> (first | done | (simp; done) | (simp; omega) | omega)) b1); clear b1)
      | (go_at_call 13; refine Calls.mono (Beyond_one _ n hn (by simp [go_sem])) ?_; rw [hd.out]; rintro e w2 ⟨rfl, rfl⟩))
    go_ret
    exact ⟨rfl, by (with_reducible (repeat' (first | exact Below.refl _ _ | assumption | apply bl_alloc | apply bl_drewN | apply bl_drew | refine bl_set ?_ ?_ _))) <;> (first | done | (simp; done) | (simp; omega) | omega)⟩
  · have hd := Lib.hid (decide_eq_false hb)
    clear hb
    go_enter Try.func12, Try.ntmps12
    go_upto_region 11 with (first
      | (go_at_call 22; refine Calls.mono alive_any ?_; rintro e w1 ⟨rfl, b1⟩; (have HX := Lib.hid (HX.out.below (bl_then (by (with_reducible (repeat' (first | exact Below.refl _ _ | assumption | apply bl_alloc | apply bl_drewN | apply bl_drew | refine bl_set ?_ ?_ _))) <;> (first | done | (simp; done) | (simp; omega) | omega)) b1))); (try have oA := OwnL.trk oA (bl_then (by (with_reducible (repeat' (first | exact Below.refl _ _ | assumption | apply bl_alloc | apply bl_drewN | apply bl_drew | refine bl_set ?_ ?_ _))) <;> (first | done | (simp; done) | (simp; omega) | omega)) b1)); (try have oB := OwnL.trk oB (bl_then (by (with_reducible (repeat' (first | exact Below.refl _ _ | assumption | apply bl_alloc | apply bl_drewN | apply bl_drew | refine bl_set ?_ ?_ _))) <;> (first | done | (simp; done) | (simp; omega) | omega)) b1)); (try have oC := OwnL.trk oC (bl_then (by (with_reducible (repeat' (first | exact Below.refl _ _ | assumption | apply bl_alloc | apply bl_drewN | apply bl_drew | refine bl_set ?_ ?_ _))) <;> (first | done | (simp; done) | (simp; omega) | omega)) b1)); (try have HY1 := Lib.hid (HY1.out.below (bl_then (by (with_reducible (repeat' (first | exact Below.refl _ _ | assumption | apply bl_alloc | apply bl_drewN | apply bl_drew | refine bl_set ?_ ?_ _))) <;> (first | done | (simp; done) | (simp; omega) | omega)) b1))); (try have HY2 := Lib.hid (HY2.out.below (bl_then (by (with_reducible (repeat' (first | exact Below.refl _ _ | assumption | apply bl_alloc | apply bl_drewN | apply bl_drew | refine bl_set ?_ ?_ _))) <;> (first | done | (simp; done) | (simp; omega) | omega)) b1))); (try have HY3 := Lib.hid (HY3.out.below (bl_then (by (with_reducible (repeat' (first | exact Below.refl _ _ | assumption | apply bl_alloc | apply bl_drewN | apply bl_drew | refine bl_set ?_ ?_ _))) <;> (first | done | (simp; done) | (simp; omega) | omega)) b1))); (have hB : Below w.heap.size w _ := bl_then (by (with_reducible (repeat' (first | exact Below.refl _ _ | assumption | apply bl_alloc | apply bl_drewN | apply bl_drew | refine bl_set ?_ ?_ _))) <;> (first | done | (simp; done) | (simp; omega) | omega)) b1); clear b1)
      | (go_at_call 13; refine Calls.mono (Beyond_one _ n hn (by simp [go_sem])) ?_; rw [hd.out]; rintro e w2 ⟨rfl, rfl⟩)
      | (go_at_call 15; refine Calls.mono (Get_any (HX.out.below (by (with_reducible (repeat' (first | exact Below.refl _ _ | assumption | apply bl_alloc | apply bl_drewN | apply bl_drew | refine bl_set ?_ ?_ _))) <;> (first | done | (simp; done) | (simp; omega) | omega))) hnc) ?_; intro e x1 hp; obtain ⟨a, k1, e1, rfl, hk1, hg1, b1⟩ := hp.got nz_at; simp only [eAttrs, At.cells]; (have HX := Lib.hid (HX.out.below (bl_then (by (with_reducible (repeat' (first | exact Below.refl _ _ | assumption | apply bl_alloc | apply bl_drewN | apply bl_drew | refine bl_set ?_ ?_ _))) <;> (first | done | (simp; done) | (simp; omega) | omega)) b1))); (try have oA := OwnL.trk oA (bl_then (by (with_reducible (repeat' (first | exact Below.refl _ _ | assumption | apply bl_alloc | apply bl_drewN | apply bl_drew | refine bl_set ?_ ?_ _))) <;> (first | done | (simp; done) | (simp; omega) | omega)) b1)); (try have oB := OwnL.trk oB (bl_then (by (with_reducible (repeat' (first | exact Below.refl _ _ | assumption | apply bl_alloc | apply bl_drewN | apply bl_drew | refine bl_set ?_ ?_ _))) <;> (first | done | (simp; done) | (simp; omega) | omega)) b1)); (try have oC := OwnL.trk oC (bl_then (by (with_reducible (repeat' (first | exact Below.refl _ _ | assumption | apply bl_alloc | apply bl_drewN | apply bl_drew | refine bl_set ?_ ?_ _))) <;> (first | done | (simp; done) | (simp; omega) | omega)) b1)); (try have HY1 := Lib.hid (HY1.out.below (bl_then (by (with_reducible (repeat' (first | exact Below.refl _ _ | assumption | apply bl_alloc | apply bl_drewN | apply bl_drew | refine bl_set ?_ ?_ _))) <;> (first | done | (simp; done) | (simp; omega) | omega)) b1))); (try have HY2 := Lib.hid (HY2.out.below (bl_then (by (with_reducible (repeat' (first | exact Below.refl _ _ | assumption | apply bl_alloc | apply bl_drewN | apply bl_drew | refine bl_set ?_ ?_ _))) <;> (first | done | (simp; done) | (simp; omega) | omega)) b1))); (try have HY3 := Lib.hid (HY3.out.below (bl_then (by (with_reducible (repeat' (first | exact Below.refl _ _ | assumption | apply bl_alloc | apply bl_drewN | apply bl_drew | refine bl_set ?_ ?_ _))) <;> (first | done | (simp; done) | (simp; omega) | omega)) b1))); (have hB : Below w.heap.size w _ := bl_then (by (with_reducible (repeat' (first | exact Below.refl _ _ | assumption | apply bl_alloc | apply bl_drewN | apply bl_drew | refine bl_set ?_ ?_ _))) <;> (first | done | (simp; done) | (simp; omega) | omega)) b1); (have HG1 := Lib.hid hg1); clear hp hg1 b1)
      | (refine wpList_store_new rfl 31 _ _ rfl [Value.int .u32 a.kind, .int .u32 a.mode, .int .u32 a.links, .int .u32 a.user, .int .u32 a.group, .int .u64 a.size, .int .u64 a.used, .int .u64 a.id, .int .u32 a.read.sec, .int .u32 a.read.nano, .int .u32 a.write.sec, .int .u32 a.write.nano, .int .u32 a.turn.sec, .int .u32 a.turn.nano] rfl rfl rfl (by kernel_rfl) (by simp [Value.oneCell']) ?_; intro y1 b1 oA; (have HX := Lib.hid (HX.out.below b1)); (have hB : Below w.heap.size w _ := bl_then hB b1); clear b1)
      | (refine wpList_load_own (by kernel_rfl) 31 _ rfl rfl (l := [Value.int .u32 a.kind, .int .u32 a.mode, .int .u32 a.links, .int .u32 a.user, .int .u32 a.group, .int .u64 a.size, .int .u64 a.used, .int .u64 a.id, .int .u32 a.read.sec, .int .u32 a.read.nano, .int .u32 a.write.sec, .int .u32 a.write.nano, .int .u32 a.turn.sec, .int .u32 a.turn.nano]) oA _ Try.underlying31 rfl (by kernel_rfl) ?_)
      | (go_at_call 23; refine Calls.mono (Put_door (HG1.out.wf lawful_at zeroA_wf')) ?_; intro e z1 hp; obtain ⟨A1, l1, c1, h1, bs1, rfl, hy1, hz1, b1⟩ := PutPost.again HG1.out lawful_at (Err1.told a) hp; (have HX := Lib.hid (HX.out.below (bl_then (by (with_reducible (repeat' (first | exact Below.refl _ _ | assumption | apply bl_alloc | apply bl_drewN | apply bl_drew | refine bl_set ?_ ?_ _))) <;> (first | done | (simp; done) | (simp; omega) | omega)) b1))); (try have oA := OwnL.trk oA (bl_then (by (with_reducible (repeat' (first | exact Below.refl _ _ | assumption | apply bl_alloc | apply bl_drewN | apply bl_drew | refine bl_set ?_ ?_ _))) <;> (first | done | (simp; done) | (simp; omega) | omega)) b1)); (try have oB := OwnL.trk oB (bl_then (by (with_reducible (repeat' (first | exact Below.refl _ _ | assumption | apply bl_alloc | apply bl_drewN | apply bl_drew | refine bl_set ?_ ?_ _))) <;> (first | done | (simp; done) | (simp; omega) | omega)) b1)); (try have oC := OwnL.trk oC (bl_then (by (with_reducible (repeat' (first | exact Below.refl _ _ | assumption | apply bl_alloc | apply bl_drewN | apply bl_drew | refine bl_set ?_ ?_ _))) <;> (first | done | (simp; done) | (simp; omega) | omega)) b1)); (try have HY1 := Lib.hid (HY1.out.below (bl_then (by (with_reducible (repeat' (first | exact Below.refl _ _ | assumption | apply bl_alloc | apply bl_drewN | apply bl_drew | refine bl_set ?_ ?_ _))) <;> (first | done | (simp; done) | (simp; omega) | omega)) b1))); (try have HY2 := Lib.hid (HY2.out.below (bl_then (by (with_reducible (repeat' (first | exact Below.refl _ _ | assumption | apply bl_alloc | apply bl_drewN | apply bl_drew | refine bl_set ?_ ?_ _))) <;> (first | done | (simp; done) | (simp; omega) | omega)) b1))); (try have HY3 := Lib.hid (HY3.out.below (bl_then (by (with_reducible (repeat' (first | exact Below.refl _ _ | assumption | apply bl_alloc | apply bl_drewN | apply bl_drew | refine bl_set ?_ ?_ _))) <;> (first | done | (simp; done) | (simp; omega) | omega)) b1))); (have hB : Below w.heap.size w _ := bl_then (by (with_reducible (repeat' (first | exact Below.refl _ _ | assumption | apply bl_alloc | apply bl_drewN | apply bl_drew | refine bl_set ?_ ?_ _))) <;> (first | done | (simp; done) | (simp; omega) | omega)) b1); (have HY1 := Lib.hid hy1); clear hp hy1 b1)
      | (go_at_call 18; refine Calls.mono (GetSet_any (HX.out.below (by (with_reducible (repeat' (first | exact Below.refl _ _ | assumption | apply bl_alloc | apply bl_drewN | apply bl_drew | refine bl_set ?_ ?_ _))) <;> (first | done | (simp; done) | (simp; omega) | omega))) hnc) ?_; intro e x2 hp; obtain ⟨s, k2, e2, rfl, hk2, hg2, b2⟩ := hp.got nz_set; simp only [eSet, St.cells]; (have HX := Lib.hid (HX.out.below (bl_then (by (with_reducible (repeat' (first | exact Below.refl _ _ | assumption | apply bl_alloc | apply bl_drewN | apply bl_drew | refine bl_set ?_ ?_ _))) <;> (first | done | (simp; done) | (simp; omega) | omega)) b2))); (try have oA := OwnL.trk oA (bl_then (by (with_reducible (repeat' (first | exact Below.refl _ _ | assumption | apply bl_alloc | apply bl_drewN | apply bl_drew | refine bl_set ?_ ?_ _))) <;> (first | done | (simp; done) | (simp; omega) | omega)) b2)); (try have oB := OwnL.trk oB (bl_then (by (with_reducible (repeat' (first | exact Below.refl _ _ | assumption | apply bl_alloc | apply bl_drewN | apply bl_drew | refine bl_set ?_ ?_ _))) <;> (first | done | (simp; done) | (simp; omega) | omega)) b2)); (try have oC := OwnL.trk oC (bl_then (by (with_reducible (repeat' (first | exact Below.refl _ _ | assumption | apply bl_alloc | apply bl_drewN | apply bl_drew | refine bl_set ?_ ?_ _))) <;> (first | done | (simp; done) | (simp; omega) | omega)) b2)); (try have HY1 := Lib.hid (HY1.out.below (bl_then (by (with_reducible (repeat' (first | exact Below.refl _ _ | assumption | apply bl_alloc | apply bl_drewN | apply bl_drew | refine bl_set ?_ ?_ _))) <;> (first | done | (simp; done) | (simp; omega) | omega)) b2))); (try have HY2 := Lib.hid (HY2.out.below (bl_then (by (with_reducible (repeat' (first | exact Below.refl _ _ | assumption | apply bl_alloc | apply bl_drewN | apply bl_drew | refine bl_set ?_ ?_ _))) <;> (first | done | (simp; done) | (simp; omega) | omega)) b2))); (try have HY3 := Lib.hid (HY3.out.below (bl_then (by (with_reducible (repeat' (first | exact Below.refl _ _ | assumption | apply bl_alloc | apply bl_drewN | apply bl_drew | refine bl_set ?_ ?_ _))) <;> (first | done | (simp; done) | (simp; omega) | omega)) b2))); (have hB : Below w.heap.size w _ := bl_then (by (with_reducible (repeat' (first | exact Below.refl _ _ | assumption | apply bl_alloc | apply bl_drewN | apply bl_drew | refine bl_set ?_ ?_ _))) <;> (first | done | (simp; done) | (simp; omega) | omega)) b2); (have HG2 := Lib.hid hg2); clear hp hg2 b2)
      | (refine wpList_store_new rfl 39 _ _ rfl [Value.bool s.hasMode, .int .u32 s.mode, .bool s.hasUser, .int .u32 s.user, .bool s.hasGroup, .int .u32 s.group, .bool s.hasSize, .int .u64 s.size, .int .u32 s.readHow, .int .u32 s.read.sec, .int .u32 s.read.nano, .int .u32 s.writeHow, .int .u32 s.write.sec, .int .u32 s.write.nano] rfl rfl rfl (by kernel_rfl) (by simp [Value.oneCell']) ?_; intro y2 b2 oB; (have HX := Lib.hid (HX.out.below b2)); (try have oA := OwnL.trk oA b2); (have hB : Below w.heap.size w _ := bl_then hB b2); clear b2)
      | (refine wpList_load_own (by kernel_rfl) 39 _ rfl rfl (l := [Value.bool s.hasMode, .int .u32 s.mode, .bool s.hasUser, .int .u32 s.user, .bool s.hasGroup, .int .u32 s.group, .bool s.hasSize, .int .u64 s.size, .int .u32 s.readHow, .int .u32 s.read.sec, .int .u32 s.read.nano, .int .u32 s.writeHow, .int .u32 s.write.sec, .int .u32 s.write.nano]) oB _ Try.underlying39 rfl (by kernel_rfl) ?_)
      | (go_at_call 25; refine Calls.mono (PutSet_any (HG2.out.wf lawful_set zeroS_wf)) ?_; intro e z2 hp; obtain ⟨A2, l2, c2, h2, bs2, rfl, hy2, hz2, b2⟩ := PutPost.again HG2.out lawful_set (Err1.set s) hp; (have HX := Lib.hid (HX.out.below (bl_then (by (with_reducible (repeat' (first | exact Below.refl _ _ | assumption | apply bl_alloc | apply bl_drewN | apply bl_drew | refine bl_set ?_ ?_ _))) <;> (first | done | (simp; done) | (simp; omega) | omega)) b2))); (try have oA := OwnL.trk oA (bl_then (by (with_reducible (repeat' (first | exact Below.refl _ _ | assumption | apply bl_alloc | apply bl_drewN | apply bl_drew | refine bl_set ?_ ?_ _))) <;> (first | done | (simp; done) | (simp; omega) | omega)) b2)); (try have oB := OwnL.trk oB (bl_then (by (with_reducible (repeat' (first | exact Below.refl _ _ | assumption | apply bl_alloc | apply bl_drewN | apply bl_drew | refine bl_set ?_ ?_ _))) <;> (first | done | (simp; done) | (simp; omega) | omega)) b2)); (try have oC := OwnL.trk oC (bl_then (by (with_reducible (repeat' (first | exact Below.refl _ _ | assumption | apply bl_alloc | apply bl_drewN | apply bl_drew | refine bl_set ?_ ?_ _))) <;> (first | done | (simp; done) | (simp; omega) | omega)) b2)); (try have HY1 := Lib.hid (HY1.out.below (bl_then (by (with_reducible (repeat' (first | exact Below.refl _ _ | assumption | apply bl_alloc | apply bl_drewN | apply bl_drew | refine bl_set ?_ ?_ _))) <;> (first | done | (simp; done) | (simp; omega) | omega)) b2))); (try have HY2 := Lib.hid (HY2.out.below (bl_then (by (with_reducible (repeat' (first | exact Below.refl _ _ | assumption | apply bl_alloc | apply bl_drewN | apply bl_drew | refine bl_set ?_ ?_ _))) <;> (first | done | (simp; done) | (simp; omega) | omega)) b2))); (try have HY3 := Lib.hid (HY3.out.below (bl_then (by (with_reducible (repeat' (first | exact Below.refl _ _ | assumption | apply bl_alloc | apply bl_drewN | apply bl_drew | refine bl_set ?_ ?_ _))) <;> (first | done | (simp; done) | (simp; omega) | omega)) b2))); (have hB : Below w.heap.size w _ := bl_then (by (with_reducible (repeat' (first | exact Below.refl _ _ | assumption | apply bl_alloc | apply bl_drewN | apply bl_drew | refine bl_set ?_ ?_ _))) <;> (first | done | (simp; done) | (simp; omega) | omega)) b2); (have HY2 := Lib.hid hy2); clear hp hy2 b2)
      | (go_at_call 20; refine Calls.mono (GetWeak_any (HX.out.below (by (with_reducible (repeat' (first | exact Below.refl _ _ | assumption | apply bl_alloc | apply bl_drewN | apply bl_drew | refine bl_set ?_ ?_ _))) <;> (first | done | (simp; done) | (simp; omega) | omega))) hnc) ?_; intro e x3 hp; obtain ⟨g, k3, e3, rfl, hk3, hg3, b3⟩ := hp.got nz_weak; simp only [eWeak, Wk.cells]; (have HX := Lib.hid (HX.out.below (bl_then (by (with_reducible (repeat' (first | exact Below.refl _ _ | assumption | apply bl_alloc | apply bl_drewN | apply bl_drew | refine bl_set ?_ ?_ _))) <;> (first | done | (simp; done) | (simp; omega) | omega)) b3))); (try have oA := OwnL.trk oA (bl_then (by (with_reducible (repeat' (first | exact Below.refl _ _ | assumption | apply bl_alloc | apply bl_drewN | apply bl_drew | refine bl_set ?_ ?_ _))) <;> (first | done | (simp; done) | (simp; omega) | omega)) b3)); (try have oB := OwnL.trk oB (bl_then (by (with_reducible (repeat' (first | exact Below.refl _ _ | assumption | apply bl_alloc | apply bl_drewN | apply bl_drew | refine bl_set ?_ ?_ _))) <;> (first | done | (simp; done) | (simp; omega) | omega)) b3)); (try have oC := OwnL.trk oC (bl_then (by (with_reducible (repeat' (first | exact Below.refl _ _ | assumption | apply bl_alloc | apply bl_drewN | apply bl_drew | refine bl_set ?_ ?_ _))) <;> (first | done | (simp; done) | (simp; omega) | omega)) b3)); (try have HY1 := Lib.hid (HY1.out.below (bl_then (by (with_reducible (repeat' (first | exact Below.refl _ _ | assumption | apply bl_alloc | apply bl_drewN | apply bl_drew | refine bl_set ?_ ?_ _))) <;> (first | done | (simp; done) | (simp; omega) | omega)) b3))); (try have HY2 := Lib.hid (HY2.out.below (bl_then (by (with_reducible (repeat' (first | exact Below.refl _ _ | assumption | apply bl_alloc | apply bl_drewN | apply bl_drew | refine bl_set ?_ ?_ _))) <;> (first | done | (simp; done) | (simp; omega) | omega)) b3))); (try have HY3 := Lib.hid (HY3.out.below (bl_then (by (with_reducible (repeat' (first | exact Below.refl _ _ | assumption | apply bl_alloc | apply bl_drewN | apply bl_drew | refine bl_set ?_ ?_ _))) <;> (first | done | (simp; done) | (simp; omega) | omega)) b3))); (have hB : Below w.heap.size w _ := bl_then (by (with_reducible (repeat' (first | exact Below.refl _ _ | assumption | apply bl_alloc | apply bl_drewN | apply bl_drew | refine bl_set ?_ ?_ _))) <;> (first | done | (simp; done) | (simp; omega) | omega)) b3); (have HG3 := Lib.hid hg3); clear hp hg3 b3)
      | (refine wpList_store_new rfl 43 _ _ rfl [Value.bool g.hasBefore, .int .u64 g.size, .int .u32 g.write.sec, .int .u32 g.write.nano, .int .u32 g.turn.sec, .int .u32 g.turn.nano, .bool g.hasAfter, .int .u32 g.after.kind, .int .u32 g.after.mode, .int .u32 g.after.links, .int .u32 g.after.user, .int .u32 g.after.group, .int .u64 g.after.size, .int .u64 g.after.used, .int .u64 g.after.id, .int .u32 g.after.read.sec, .int .u32 g.after.read.nano, .int .u32 g.after.write.sec, .int .u32 g.after.write.nano, .int .u32 g.after.turn.sec, .int .u32 g.after.turn.nano] rfl rfl rfl (by kernel_rfl) (by simp [Value.oneCell']) ?_; intro y3 b3 oC; (have HX := Lib.hid (HX.out.below b3)); (try have oA := OwnL.trk oA b3); (try have oB := OwnL.trk oB b3); (have hB : Below w.heap.size w _ := bl_then hB b3); clear b3)
      | (refine wpList_load_own (by kernel_rfl) 43 _ rfl rfl (l := [Value.bool g.hasBefore, .int .u64 g.size, .int .u32 g.write.sec, .int .u32 g.write.nano, .int .u32 g.turn.sec, .int .u32 g.turn.nano, .bool g.hasAfter, .int .u32 g.after.kind, .int .u32 g.after.mode, .int .u32 g.after.links, .int .u32 g.after.user, .int .u32 g.after.group, .int .u64 g.after.size, .int .u64 g.after.used, .int .u64 g.after.id, .int .u32 g.after.read.sec, .int .u32 g.after.read.nano, .int .u32 g.after.write.sec, .int .u32 g.after.write.nano, .int .u32 g.after.turn.sec, .int .u32 g.after.turn.nano]) oC _ Try.underlying43 rfl (by kernel_rfl) ?_)
      | (go_at_call 26; refine Calls.mono (PutWeak_go (HG3.out.wf lawful_weak zeroW_wf)) ?_; intro e z3 hp; obtain ⟨A3, l3, c3, h3, bs3, rfl, hy3, hz3, b3⟩ := PutPost.again HG3.out lawful_weak (Err1.weak g) hp; (have HX := Lib.hid (HX.out.below (bl_then (by (with_reducible (repeat' (first | exact Below.refl _ _ | assumption | apply bl_alloc | apply bl_drewN | apply bl_drew | refine bl_set ?_ ?_ _))) <;> (first | done | (simp; done) | (simp; omega) | omega)) b3))); (try have oA := OwnL.trk oA (bl_then (by (with_reducible (repeat' (first | exact Below.refl _ _ | assumption | apply bl_alloc | apply bl_drewN | apply bl_drew | refine bl_set ?_ ?_ _))) <;> (first | done | (simp; done) | (simp; omega) | omega)) b3)); (try have oB := OwnL.trk oB (bl_then (by (with_reducible (repeat' (first | exact Below.refl _ _ | assumption | apply bl_alloc | apply bl_drewN | apply bl_drew | refine bl_set ?_ ?_ _))) <;> (first | done | (simp; done) | (simp; omega) | omega)) b3)); (try have oC := OwnL.trk oC (bl_then (by (with_reducible (repeat' (first | exact Below.refl _ _ | assumption | apply bl_alloc | apply bl_drewN | apply bl_drew | refine bl_set ?_ ?_ _))) <;> (first | done | (simp; done) | (simp; omega) | omega)) b3)); (try have HY1 := Lib.hid (HY1.out.below (bl_then (by (with_reducible (repeat' (first | exact Below.refl _ _ | assumption | apply bl_alloc | apply bl_drewN | apply bl_drew | refine bl_set ?_ ?_ _))) <;> (first | done | (simp; done) | (simp; omega) | omega)) b3))); (try have HY2 := Lib.hid (HY2.out.below (bl_then (by (with_reducible (repeat' (first | exact Below.refl _ _ | assumption | apply bl_alloc | apply bl_drewN | apply bl_drew | refine bl_set ?_ ?_ _))) <;> (first | done | (simp; done) | (simp; omega) | omega)) b3))); (try have HY3 := Lib.hid (HY3.out.below (bl_then (by (with_reducible (repeat' (first | exact Below.refl _ _ | assumption | apply bl_alloc | apply bl_drewN | apply bl_drew | refine bl_set ?_ ?_ _))) <;> (first | done | (simp; done) | (simp; omega) | omega)) b3))); (have hB : Below w.heap.size w _ := bl_then (by (with_reducible (repeat' (first | exact Below.refl _ _ | assumption | apply bl_alloc | apply bl_drewN | apply bl_drew | refine bl_set ?_ ?_ _))) <;> (first | done | (simp; done) | (simp; omega) | omega)) b3); (have HY3 := Lib.hid hy3); clear hp hy3 b3))
    dsimp only [List.append_eq, List.cons_append, List.nil_append]
    have hz1 := hz1; have hz2 := hz2; have hz3 := hz3
    have heqA := eqz_attrs; have heqS := eqz_set; have heqW := eqz_weak
    rcases HG1.out with ⟨rfl, hp1⟩ | ⟨he1, rfl, rfl⟩ <;> rcases HG2.out with ⟨rfl, hp2⟩ | ⟨he2, rfl, rfl⟩ <;> rcases HG3.out with ⟨rfl, hp3⟩ | ⟨he3, rfl, rfl⟩
    · obtain ⟨rfl, hbs1⟩ := hz1.out rfl
      have hkc1 : k1 ≤ cap := Nat.le_trans hk1 hnc
      have hbs1 := Lib.hid hbs1
      obtain ⟨rfl, hbs2⟩ := hz2.out rfl
      have hkc2 : k2 ≤ cap := Nat.le_trans hk2 hnc
      have hbs2 := Lib.hid hbs2
      obtain ⟨rfl, hbs3⟩ := hz3.out rfl
      have hkc3 : k3 ≤ cap := Nat.le_trans hk3 hnc
      have hbs3 := Lib.hid hbs3
      clear hz1 hz2 hz3
      go_wp2_with (first
        | (go_at_call 27; ((with_reducible refine Calls.mono (Same_any HY1.out (HX.out.take k1 hk1)) ?_); rw [decide_eq_true hbs1.out]; rintro e wb ⟨rfl, bb⟩); (have oA := OwnL.trk oA bb); (have oB := OwnL.trk oB bb); (have oC := OwnL.trk oC bb); (have HX := Lib.hid (HX.out.below bb)); (have HY1 := Lib.hid (HY1.out.below bb)); (have HY2 := Lib.hid (HY2.out.below bb)); (have HY3 := Lib.hid (HY3.out.below bb)); (have hB : Below w.heap.size w _ := bl_then hB bb); clear bb)
        | (go_at_call 27; ((with_reducible refine Calls.mono (Same_any HY2.out (HX.out.take k2 hk2)) ?_); rw [decide_eq_true hbs2.out]; rintro e wb ⟨rfl, bb⟩); (have oA := OwnL.trk oA bb); (have oB := OwnL.trk oB bb); (have oC := OwnL.trk oC bb); (have HX := Lib.hid (HX.out.below bb)); (have HY1 := Lib.hid (HY1.out.below bb)); (have HY2 := Lib.hid (HY2.out.below bb)); (have HY3 := Lib.hid (HY3.out.below bb)); (have hB : Below w.heap.size w _ := bl_then hB bb); clear bb)
        | (go_at_call 27; ((with_reducible refine Calls.mono (Same_any HY3.out (HX.out.take k3 hk3)) ?_); rw [decide_eq_true hbs3.out]; rintro e wb ⟨rfl, bb⟩); (have oA := OwnL.trk oA bb); (have oB := OwnL.trk oB bb); (have oC := OwnL.trk oC bb); (have HX := Lib.hid (HX.out.below bb)); (have HY1 := Lib.hid (HY1.out.below bb)); (have HY2 := Lib.hid (HY2.out.below bb)); (have HY3 := Lib.hid (HY3.out.below bb)); (have hB : Below w.heap.size w _ := bl_then hB bb); clear bb))
      go_ret
      exact ⟨rfl, by (with_reducible (repeat' (first | exact Below.refl _ _ | assumption | apply bl_alloc | apply bl_drewN | apply bl_drew | refine bl_set ?_ ?_ _))) <;> (first | done | (simp; done) | (simp; omega) | omega)⟩
    · obtain ⟨rfl, hbs1⟩ := hz1.out rfl
      have hkc1 : k1 ≤ cap := Nat.le_trans hk1 hnc
      have hbs1 := Lib.hid hbs1
      obtain ⟨rfl, hbs2⟩ := hz2.out rfl
      have hkc2 : k2 ≤ cap := Nat.le_trans hk2 hnc
      have hbs2 := Lib.hid hbs2
      have hne3 : (e3 == 0) = false := by simpa using he3
      have hnf3 : (e3 != 0) = true := by simpa using he3
      clear he3
      clear hz1 hz2 hz3
      go_wp2_with (first
        | (go_at_call 27; ((with_reducible refine Calls.mono (Same_any HY1.out (HX.out.take k1 hk1)) ?_); rw [decide_eq_true hbs1.out]; rintro e wb ⟨rfl, bb⟩); (have oA := OwnL.trk oA bb); (have oB := OwnL.trk oB bb); (have oC := OwnL.trk oC bb); (have HX := Lib.hid (HX.out.below bb)); (have HY1 := Lib.hid (HY1.out.below bb)); (have HY2 := Lib.hid (HY2.out.below bb)); (have HY3 := Lib.hid (HY3.out.below bb)); (have hB : Below w.heap.size w _ := bl_then hB bb); clear bb)
        | (go_at_call 27; ((with_reducible refine Calls.mono (Same_any HY2.out (HX.out.take k2 hk2)) ?_); rw [decide_eq_true hbs2.out]; rintro e wb ⟨rfl, bb⟩); (have oA := OwnL.trk oA bb); (have oB := OwnL.trk oB bb); (have oC := OwnL.trk oC bb); (have HX := Lib.hid (HX.out.below bb)); (have HY1 := Lib.hid (HY1.out.below bb)); (have HY2 := Lib.hid (HY2.out.below bb)); (have HY3 := Lib.hid (HY3.out.below bb)); (have hB : Below w.heap.size w _ := bl_then hB bb); clear bb)
        | (refine wpList_load_own (by kernel_rfl) 43 _ rfl rfl (l := [Value.bool false, .int .u64 0, .int .u32 0, .int .u32 0, .int .u32 0, .int .u32 0, .bool false, .int .u32 0, .int .u32 0, .int .u32 0, .int .u32 0, .int .u32 0, .int .u64 0, .int .u64 0, .int .u64 0, .int .u32 0, .int .u32 0, .int .u32 0, .int .u32 0, .int .u32 0, .int .u32 0]) oC _ Try.underlying43 rfl (by kernel_rfl) ?_))
      go_ret
      exact ⟨rfl, by (with_reducible (repeat' (first | exact Below.refl _ _ | assumption | apply bl_alloc | apply bl_drewN | apply bl_drew | refine bl_set ?_ ?_ _))) <;> (first | done | (simp; done) | (simp; omega) | omega)⟩
    · obtain ⟨rfl, hbs1⟩ := hz1.out rfl
      have hkc1 : k1 ≤ cap := Nat.le_trans hk1 hnc
      have hbs1 := Lib.hid hbs1
      have hne2 : (e2 == 0) = false := by simpa using he2
      have hnf2 : (e2 != 0) = true := by simpa using he2
      clear he2
      obtain ⟨rfl, hbs3⟩ := hz3.out rfl
      have hkc3 : k3 ≤ cap := Nat.le_trans hk3 hnc
      have hbs3 := Lib.hid hbs3
      clear hz1 hz2 hz3
      go_wp2_with (first
        | (go_at_call 27; ((with_reducible refine Calls.mono (Same_any HY1.out (HX.out.take k1 hk1)) ?_); rw [decide_eq_true hbs1.out]; rintro e wb ⟨rfl, bb⟩); (have oA := OwnL.trk oA bb); (have oB := OwnL.trk oB bb); (have oC := OwnL.trk oC bb); (have HX := Lib.hid (HX.out.below bb)); (have HY1 := Lib.hid (HY1.out.below bb)); (have HY2 := Lib.hid (HY2.out.below bb)); (have HY3 := Lib.hid (HY3.out.below bb)); (have hB : Below w.heap.size w _ := bl_then hB bb); clear bb)
        | (refine wpList_load_own (by kernel_rfl) 39 _ rfl rfl (l := [Value.bool false, .int .u32 0, .bool false, .int .u32 0, .bool false, .int .u32 0, .bool false, .int .u64 0, .int .u32 0, .int .u32 0, .int .u32 0, .int .u32 0, .int .u32 0, .int .u32 0]) oB _ Try.underlying39 rfl (by kernel_rfl) ?_)
        | (go_at_call 27; ((with_reducible refine Calls.mono (Same_any HY3.out (HX.out.take k3 hk3)) ?_); rw [decide_eq_true hbs3.out]; rintro e wb ⟨rfl, bb⟩); (have oA := OwnL.trk oA bb); (have oB := OwnL.trk oB bb); (have oC := OwnL.trk oC bb); (have HX := Lib.hid (HX.out.below bb)); (have HY1 := Lib.hid (HY1.out.below bb)); (have HY2 := Lib.hid (HY2.out.below bb)); (have HY3 := Lib.hid (HY3.out.below bb)); (have hB : Below w.heap.size w _ := bl_then hB bb); clear bb))
      go_ret
      exact ⟨rfl, by (with_reducible (repeat' (first | exact Below.refl _ _ | assumption | apply bl_alloc | apply bl_drewN | apply bl_drew | refine bl_set ?_ ?_ _))) <;> (first | done | (simp; done) | (simp; omega) | omega)⟩
    · obtain ⟨rfl, hbs1⟩ := hz1.out rfl
      have hkc1 : k1 ≤ cap := Nat.le_trans hk1 hnc
      have hbs1 := Lib.hid hbs1
      have hne2 : (e2 == 0) = false := by simpa using he2
      have hnf2 : (e2 != 0) = true := by simpa using he2
      clear he2
      have hne3 : (e3 == 0) = false := by simpa using he3
      have hnf3 : (e3 != 0) = true := by simpa using he3
      clear he3
      clear hz1 hz2 hz3
      go_wp2_with (first
        | (go_at_call 27; ((with_reducible refine Calls.mono (Same_any HY1.out (HX.out.take k1 hk1)) ?_); rw [decide_eq_true hbs1.out]; rintro e wb ⟨rfl, bb⟩); (have oA := OwnL.trk oA bb); (have oB := OwnL.trk oB bb); (have oC := OwnL.trk oC bb); (have HX := Lib.hid (HX.out.below bb)); (have HY1 := Lib.hid (HY1.out.below bb)); (have HY2 := Lib.hid (HY2.out.below bb)); (have HY3 := Lib.hid (HY3.out.below bb)); (have hB : Below w.heap.size w _ := bl_then hB bb); clear bb)
        | (refine wpList_load_own (by kernel_rfl) 39 _ rfl rfl (l := [Value.bool false, .int .u32 0, .bool false, .int .u32 0, .bool false, .int .u32 0, .bool false, .int .u64 0, .int .u32 0, .int .u32 0, .int .u32 0, .int .u32 0, .int .u32 0, .int .u32 0]) oB _ Try.underlying39 rfl (by kernel_rfl) ?_)
        | (refine wpList_load_own (by kernel_rfl) 43 _ rfl rfl (l := [Value.bool false, .int .u64 0, .int .u32 0, .int .u32 0, .int .u32 0, .int .u32 0, .bool false, .int .u32 0, .int .u32 0, .int .u32 0, .int .u32 0, .int .u32 0, .int .u64 0, .int .u64 0, .int .u64 0, .int .u32 0, .int .u32 0, .int .u32 0, .int .u32 0, .int .u32 0, .int .u32 0]) oC _ Try.underlying43 rfl (by kernel_rfl) ?_))
      go_ret
      exact ⟨rfl, by (with_reducible (repeat' (first | exact Below.refl _ _ | assumption | apply bl_alloc | apply bl_drewN | apply bl_drew | refine bl_set ?_ ?_ _))) <;> (first | done | (simp; done) | (simp; omega) | omega)⟩
    · have hne1 : (e1 == 0) = false := by simpa using he1
      have hnf1 : (e1 != 0) = true := by simpa using he1
      clear he1
      obtain ⟨rfl, hbs2⟩ := hz2.out rfl
      have hkc2 : k2 ≤ cap := Nat.le_trans hk2 hnc
      have hbs2 := Lib.hid hbs2
      obtain ⟨rfl, hbs3⟩ := hz3.out rfl
      have hkc3 : k3 ≤ cap := Nat.le_trans hk3 hnc
      have hbs3 := Lib.hid hbs3
      clear hz1 hz2 hz3
      go_wp2_with (first
        | (refine wpList_load_own (by kernel_rfl) 31 _ rfl rfl (l := [Value.int .u32 0, .int .u32 0, .int .u32 0, .int .u32 0, .int .u32 0, .int .u64 0, .int .u64 0, .int .u64 0, .int .u32 0, .int .u32 0, .int .u32 0, .int .u32 0, .int .u32 0, .int .u32 0]) oA _ Try.underlying31 rfl (by kernel_rfl) ?_)
        | (go_at_call 27; ((with_reducible refine Calls.mono (Same_any HY2.out (HX.out.take k2 hk2)) ?_); rw [decide_eq_true hbs2.out]; rintro e wb ⟨rfl, bb⟩); (have oA := OwnL.trk oA bb); (have oB := OwnL.trk oB bb); (have oC := OwnL.trk oC bb); (have HX := Lib.hid (HX.out.below bb)); (have HY1 := Lib.hid (HY1.out.below bb)); (have HY2 := Lib.hid (HY2.out.below bb)); (have HY3 := Lib.hid (HY3.out.below bb)); (have hB : Below w.heap.size w _ := bl_then hB bb); clear bb)
        | (go_at_call 27; ((with_reducible refine Calls.mono (Same_any HY3.out (HX.out.take k3 hk3)) ?_); rw [decide_eq_true hbs3.out]; rintro e wb ⟨rfl, bb⟩); (have oA := OwnL.trk oA bb); (have oB := OwnL.trk oB bb); (have oC := OwnL.trk oC bb); (have HX := Lib.hid (HX.out.below bb)); (have HY1 := Lib.hid (HY1.out.below bb)); (have HY2 := Lib.hid (HY2.out.below bb)); (have HY3 := Lib.hid (HY3.out.below bb)); (have hB : Below w.heap.size w _ := bl_then hB bb); clear bb))
      go_ret
      exact ⟨rfl, by (with_reducible (repeat' (first | exact Below.refl _ _ | assumption | apply bl_alloc | apply bl_drewN | apply bl_drew | refine bl_set ?_ ?_ _))) <;> (first | done | (simp; done) | (simp; omega) | omega)⟩
    · have hne1 : (e1 == 0) = false := by simpa using he1
      have hnf1 : (e1 != 0) = true := by simpa using he1
      clear he1
      obtain ⟨rfl, hbs2⟩ := hz2.out rfl
      have hkc2 : k2 ≤ cap := Nat.le_trans hk2 hnc
      have hbs2 := Lib.hid hbs2
      have hne3 : (e3 == 0) = false := by simpa using he3
      have hnf3 : (e3 != 0) = true := by simpa using he3
      clear he3
      clear hz1 hz2 hz3
      go_wp2_with (first
        | (refine wpList_load_own (by kernel_rfl) 31 _ rfl rfl (l := [Value.int .u32 0, .int .u32 0, .int .u32 0, .int .u32 0, .int .u32 0, .int .u64 0, .int .u64 0, .int .u64 0, .int .u32 0, .int .u32 0, .int .u32 0, .int .u32 0, .int .u32 0, .int .u32 0]) oA _ Try.underlying31 rfl (by kernel_rfl) ?_)
        | (go_at_call 27; ((with_reducible refine Calls.mono (Same_any HY2.out (HX.out.take k2 hk2)) ?_); rw [decide_eq_true hbs2.out]; rintro e wb ⟨rfl, bb⟩); (have oA := OwnL.trk oA bb); (have oB := OwnL.trk oB bb); (have oC := OwnL.trk oC bb); (have HX := Lib.hid (HX.out.below bb)); (have HY1 := Lib.hid (HY1.out.below bb)); (have HY2 := Lib.hid (HY2.out.below bb)); (have HY3 := Lib.hid (HY3.out.below bb)); (have hB : Below w.heap.size w _ := bl_then hB bb); clear bb)
        | (refine wpList_load_own (by kernel_rfl) 43 _ rfl rfl (l := [Value.bool false, .int .u64 0, .int .u32 0, .int .u32 0, .int .u32 0, .int .u32 0, .bool false, .int .u32 0, .int .u32 0, .int .u32 0, .int .u32 0, .int .u32 0, .int .u64 0, .int .u64 0, .int .u64 0, .int .u32 0, .int .u32 0, .int .u32 0, .int .u32 0, .int .u32 0, .int .u32 0]) oC _ Try.underlying43 rfl (by kernel_rfl) ?_))
      go_ret
      exact ⟨rfl, by (with_reducible (repeat' (first | exact Below.refl _ _ | assumption | apply bl_alloc | apply bl_drewN | apply bl_drew | refine bl_set ?_ ?_ _))) <;> (first | done | (simp; done) | (simp; omega) | omega)⟩
    · have hne1 : (e1 == 0) = false := by simpa using he1
      have hnf1 : (e1 != 0) = true := by simpa using he1
      clear he1
      have hne2 : (e2 == 0) = false := by simpa using he2
      have hnf2 : (e2 != 0) = true := by simpa using he2
      clear he2
      obtain ⟨rfl, hbs3⟩ := hz3.out rfl
      have hkc3 : k3 ≤ cap := Nat.le_trans hk3 hnc
      have hbs3 := Lib.hid hbs3
      clear hz1 hz2 hz3
      go_wp2_with (first
        | (refine wpList_load_own (by kernel_rfl) 31 _ rfl rfl (l := [Value.int .u32 0, .int .u32 0, .int .u32 0, .int .u32 0, .int .u32 0, .int .u64 0, .int .u64 0, .int .u64 0, .int .u32 0, .int .u32 0, .int .u32 0, .int .u32 0, .int .u32 0, .int .u32 0]) oA _ Try.underlying31 rfl (by kernel_rfl) ?_)
        | (refine wpList_load_own (by kernel_rfl) 39 _ rfl rfl (l := [Value.bool false, .int .u32 0, .bool false, .int .u32 0, .bool false, .int .u32 0, .bool false, .int .u64 0, .int .u32 0, .int .u32 0, .int .u32 0, .int .u32 0, .int .u32 0, .int .u32 0]) oB _ Try.underlying39 rfl (by kernel_rfl) ?_)
        | (go_at_call 27; ((with_reducible refine Calls.mono (Same_any HY3.out (HX.out.take k3 hk3)) ?_); rw [decide_eq_true hbs3.out]; rintro e wb ⟨rfl, bb⟩); (have oA := OwnL.trk oA bb); (have oB := OwnL.trk oB bb); (have oC := OwnL.trk oC bb); (have HX := Lib.hid (HX.out.below bb)); (have HY1 := Lib.hid (HY1.out.below bb)); (have HY2 := Lib.hid (HY2.out.below bb)); (have HY3 := Lib.hid (HY3.out.below bb)); (have hB : Below w.heap.size w _ := bl_then hB bb); clear bb))
      go_ret
      exact ⟨rfl, by (with_reducible (repeat' (first | exact Below.refl _ _ | assumption | apply bl_alloc | apply bl_drewN | apply bl_drew | refine bl_set ?_ ?_ _))) <;> (first | done | (simp; done) | (simp; omega) | omega)⟩
    · have hne1 : (e1 == 0) = false := by simpa using he1
      have hnf1 : (e1 != 0) = true := by simpa using he1
      clear he1
      have hne2 : (e2 == 0) = false := by simpa using he2
      have hnf2 : (e2 != 0) = true := by simpa using he2
      clear he2
      have hne3 : (e3 == 0) = false := by simpa using he3
      have hnf3 : (e3 != 0) = true := by simpa using he3
      clear he3
      clear hz1 hz2 hz3
      go_wp2_with (first
        | (refine wpList_load_own (by kernel_rfl) 31 _ rfl rfl (l := [Value.int .u32 0, .int .u32 0, .int .u32 0, .int .u32 0, .int .u32 0, .int .u64 0, .int .u64 0, .int .u64 0, .int .u32 0, .int .u32 0, .int .u32 0, .int .u32 0, .int .u32 0, .int .u32 0]) oA _ Try.underlying31 rfl (by kernel_rfl) ?_)
        | (refine wpList_load_own (by kernel_rfl) 39 _ rfl rfl (l := [Value.bool false, .int .u32 0, .bool false, .int .u32 0, .bool false, .int .u32 0, .bool false, .int .u64 0, .int .u32 0, .int .u32 0, .int .u32 0, .int .u32 0, .int .u32 0, .int .u32 0]) oB _ Try.underlying39 rfl (by kernel_rfl) ?_)
        | (refine wpList_load_own (by kernel_rfl) 43 _ rfl rfl (l := [Value.bool false, .int .u64 0, .int .u32 0, .int .u32 0, .int .u32 0, .int .u32 0, .bool false, .int .u32 0, .int .u32 0, .int .u32 0, .int .u32 0, .int .u32 0, .int .u64 0, .int .u64 0, .int .u64 0, .int .u32 0, .int .u32 0, .int .u32 0, .int .u32 0, .int .u32 0, .int .u32 0]) oC _ Try.underlying43 rfl (by kernel_rfl) ?_))
      go_ret
      exact ⟨rfl, by (with_reducible (repeat' (first | exact Below.refl _ _ | assumption | apply bl_alloc | apply bl_drewN | apply bl_drew | refine bl_set ?_ ?_ _))) <;> (first | done | (simp; done) | (simp; omega) | omega)⟩
end
end Go.Proofs.Ytkaapdnjlmceoaa
namespace Go.Proofs.Ytkaapdnjlmceoaa
open Go.ChangeShapes Go.WideShapes Go.ChangeAt Go.RowKit

set_option maxRecDepth 100000 in
theorem attrsAgain_lifted (os : Os) (started : os.Started) (H : Type) (enc : TypeId × Value → H) :
    ReturnsInHanded {} Try.checked os 12 .any (Rows.attrsAgainSpec.pre6 enc Try.prog Try.f12 Rows.attrsAgainRow.domain false) (Rows.attrsAgainSpec.post enc Try.prog Try.f12 false true false false) := by
  refine returnsInHanded_of_change (C := Try.checked) own started (by kernel_rfl) Try.func12
    (ChangeSpec.witness6 (enc := enc) (C := Try.checked) false ⟨#[], #[.slice none 0 0], []⟩ 8 (by kernel_rfl) (by kernel_rfl) (by kernel_rfl) (by kernel_rfl)) ?_
  intro W base args ds gs before hval0 hW hcnd _
  have hval : ∀ (j : Nat) t v, Try.f12.params[j]? = some t → args[j]? = some v → Value.okWide Try.prog W .any base t v := hval0
  have hW' := hW
  obtain ⟨p, q, hA0, hV, rfl, hfz, hnd⟩ := hW
  have hA : DataW.TrodAll enc Try.prog W 0 (fun _ => true) true Try.f12.params.toList args.toList ds p := hA0
  rw [Try.params12] at hA hval
  obtain ⟨v0, vs0, d0, ds0, p0, q0, hargs, rfl, rfl, h0, r0⟩ := trodAll_cons hA
  obtain ⟨rfl, rfl, rfl⟩ := trodAll_nil r0
  obtain rfl : args = #[v0] := by cases args; simp_all
  obtain ⟨rfl, rfl⟩ := trodVars_none hV
  have k0 := h0
  have lt0 : ∀ x ∈ p0, x.block < W.heap.size := by obtain ⟨m, hm⟩ := k0; exact DataW.trod_lt m _ _ _ hm
  obtain ⟨A0, l0, c0, xs0, rfl, w0, x0, y0⟩ := open_bytes Try.underlying22 Try.underlying5 (by kernel_rfl) (hval 0 22 v0 rfl rfl) h0
  clear hA0 hval0
  refine (LAttrsAgain w0 x0 y0).mono fun e W' ⟨he, bel⟩ => ?_
  subst he
  exact ⟨_, rfl, _, _, _, [], _, [], hW', trodAll_mk1 (shut_bool Try.underlying4 _), (trodAll_cons_mk (Below.trod laidOut (by kernel_rfl) (of_decide_eq_true (by kernel_rfl)) k0 bel lt0) trodAll_mk0), rfl, bel.frame _, fun h => by cases h⟩

theorem attrsAgain_over : Rows.attrsAgainRow.holds Try.pinned (OpenSpec.ofChange Rows.attrsAgainSpec) :=
  OpenClaim.holds_of_wide 12 Try.f12 rfl rfl rfl rfl rfl rfl rfl ⟨rfl, rfl, rfl, rfl, rfl⟩ rfl rfl rfl rfl rfl (by kernel_rfl) Try.func12 (by kernel_rfl)
    (of_decide_eq_true (by kernel_rfl)) (by unfold Func.isWrapper; first | (rw [if_pos (by decide +kernel)]; kernel_rfl) | (rw [if_neg (by decide +kernel)]; exact ⟨rfl, rfl⟩))
    (fun os started H enc _ => attrsAgain_lifted os started H enc)

theorem attrsAgain_proved : Rows.AttrsAgainSaid := attrsAgain_over
#print axioms attrsAgain_proved
end Go.Proofs.Ytkaapdnjlmceoaa

/- Whatever was told ahead and behind, whatever bytes stand behind it, and however few are left, AttrsWeakBack answers true: what was put is got; of fewer bytes nothing is. No condition. Printed by gen_rows.py. -/
import Derived.Test.YtkaapdnjlmceoaaAlive
import Derived.Test.YtkaapdnjlmceoaaSizes
import Derived.Test.YtkaapdnjlmceoaaLawfulB
import Derived.Test.YtkaapdnjlmceoaaDWeak
import Derived.Test.YtkaapdnjlmceoaaRow
import Derived.Test.YtkaapdnjlmceoaaFlatAll
set_option linter.unusedVariables false
set_option linter.unusedSimpArgs false
namespace Go.Proofs.Ytkaapdnjlmceoaa
open Go.RowKit
theorem wpList_load_own {P : Program} {ops : Array Oper} {rest : List Oper} {op : Oper} {a : Act} {w : World} {Q : Exit → Act → World → Prop} {b : Nat} {l : List Value} (hw : Region.wanted op (yielded ops a.tmps) = true) (ty : TypeId) (x : Operand) (ho : op.op = .load ty x)
    (hx : a.eval x = .pointer (some ⟨b, 0, none⟩)) (h : OwnL w b l) (d : TypeDesc) (hu : P.underlying ty = some d) (hd : d.isRow = true) (hi : (P.info? ty).map (·.size) = some l.length)
    (hn : wpList P ops Q rest (a.put op.dst (.agg l.toArray)) w) : wpList P ops Q (op :: rest) a w :=
  wpList_step fun K hK => by
    rw [if_pos hw]
    exact wp_load_mid ty x ho b 0 hx l d h.range hu hd hi (hK _ _ hn)
theorem PutPost.two {r : Except Int (List UInt8)} {w w' : World} {e : Ending} (h : PutPost r w e w') (h1 : Err1 r) : Below w.heap.size w w' ∧ ((∃ bs A cap, r = .ok bs ∧ e = .returned (.tuple #[.slice A bs.length cap, .int .i64 0]) ∧ bs.length ≤ cap ∧ cap ≤ 9223372036854775807 ∧ Bs w' A bs.length bs ∧ OwnB w' w.heap.size (.slice A bs.length cap) bs) ∨ (r = .error 1 ∧ e = .returned (.tuple #[.slice none 0 0, .int .i64 1]))) := by
  obtain ⟨hb, ⟨bs, v, e1, e2, o⟩ | ⟨er, e1, e2⟩⟩ := h
  · obtain ⟨A, c, rfl, hc, hm, hB⟩ := o.reads
    exact ⟨hb, .inl ⟨bs, A, c, e1, e2, hc, hm, hB, o⟩⟩
  · have := h1 er e1
    subst this
    exact ⟨hb, .inr ⟨e1, e2⟩⟩
theorem PutPost.twoN {r : Except Int (List UInt8)} {w w' : World} {e : Ending} {k : Nat} (h : PutPost r w e w') (h1 : Err1 r) (hl : Len r k) : Below w.heap.size w w' ∧ ((∃ bs A cap, r = .ok bs ∧ bs.length = k ∧ e = .returned (.tuple #[.slice A k cap, .int .i64 0]) ∧ k ≤ cap ∧ cap ≤ 9223372036854775807 ∧ Bs w' A k bs ∧ OwnB w' w.heap.size (.slice A k cap) bs) ∨ (r = .error 1 ∧ e = .returned (.tuple #[.slice none 0 0, .int .i64 1]))) := by
  obtain ⟨hb, ⟨bs, A, cap, hr, he, hc, hm, hB, hO⟩ | h⟩ := h.two h1
  · have hn := hl _ hr
    subst hn
    exact ⟨hb, .inl ⟨bs, A, cap, hr, rfl, he, hc, hm, hB, hO⟩⟩
  · exact ⟨hb, .inr h⟩
theorem OwnB.base_le {w : World} {base : Nat} {v : Value} {bs : List UInt8} (h : OwnB w base v bs) (hp : 0 < bs.length) : base ≤ w.heap.size := by
  rcases h.2 with ⟨h1, h2⟩ | ⟨g1, c1, cur1, h1, h2, h3, _⟩
  · omega
  · have := (Array.getElem?_eq_some_iff.1 h3).1; omega
theorem OwnB.two {w : World} {base : Nat} {v : Value} {bs : List UInt8} (h : OwnB w base v bs) : ∃ A cap, v = .slice A bs.length cap ∧ bs.length ≤ cap ∧ Bs w A bs.length bs := by
  obtain ⟨A, c, rfl, hc, hm, hB⟩ := h.reads
  exact ⟨A, c, rfl, hc, hB⟩
set_option maxRecDepth 100000 in
theorem eqs_attrs (a : At) (w : World) : (binOp .eql 31 (.agg #[Value.int .u32 a.kind, .int .u32 a.mode, .int .u32 a.links, .int .u32 a.user, .int .u32 a.group, .int .u64 a.size, .int .u64 a.used, .int .u64 a.id, .int .u32 a.read.sec, .int .u32 a.read.nano, .int .u32 a.write.sec, .int .u32 a.write.nano, .int .u32 a.turn.sec, .int .u32 a.turn.nano]) (.agg #[Value.int .u32 a.kind, .int .u32 a.mode, .int .u32 a.links, .int .u32 a.user, .int .u32 a.group, .int .u64 a.size, .int .u64 a.used, .int .u64 a.id, .int .u32 a.read.sec, .int .u32 a.read.nano, .int .u32 a.write.sec, .int .u32 a.write.nano, .int .u32 a.turn.sec, .int .u32 a.turn.nano])).run Try.prog w = .ok (.bool true) w := by
  go_simp
set_option maxRecDepth 100000 in
theorem eqs_set (a : St) (w : World) : (binOp .eql 39 (.agg #[Value.bool a.hasMode, .int .u32 a.mode, .bool a.hasUser, .int .u32 a.user, .bool a.hasGroup, .int .u32 a.group, .bool a.hasSize, .int .u64 a.size, .int .u32 a.readHow, .int .u32 a.read.sec, .int .u32 a.read.nano, .int .u32 a.writeHow, .int .u32 a.write.sec, .int .u32 a.write.nano]) (.agg #[Value.bool a.hasMode, .int .u32 a.mode, .bool a.hasUser, .int .u32 a.user, .bool a.hasGroup, .int .u32 a.group, .bool a.hasSize, .int .u64 a.size, .int .u32 a.readHow, .int .u32 a.read.sec, .int .u32 a.read.nano, .int .u32 a.writeHow, .int .u32 a.write.sec, .int .u32 a.write.nano])).run Try.prog w = .ok (.bool true) w := by
  go_simp
set_option maxRecDepth 100000 in
set_option maxHeartbeats 4000000 in
theorem eqs_weak (a : Wk) (w : World) : (binOp .eql 43 (.agg #[Value.bool a.hasBefore, .int .u64 a.size, .int .u32 a.write.sec, .int .u32 a.write.nano, .int .u32 a.turn.sec, .int .u32 a.turn.nano, .bool a.hasAfter, .int .u32 a.after.kind, .int .u32 a.after.mode, .int .u32 a.after.links, .int .u32 a.after.user, .int .u32 a.after.group, .int .u64 a.after.size, .int .u64 a.after.used, .int .u64 a.after.id, .int .u32 a.after.read.sec, .int .u32 a.after.read.nano, .int .u32 a.after.write.sec, .int .u32 a.after.write.nano, .int .u32 a.after.turn.sec, .int .u32 a.after.turn.nano]) (.agg #[Value.bool a.hasBefore, .int .u64 a.size, .int .u32 a.write.sec, .int .u32 a.write.nano, .int .u32 a.turn.sec, .int .u32 a.turn.nano, .bool a.hasAfter, .int .u32 a.after.kind, .int .u32 a.after.mode, .int .u32 a.after.links, .int .u32 a.after.user, .int .u32 a.after.group, .int .u64 a.after.size, .int .u64 a.after.used, .int .u64 a.after.id, .int .u32 a.after.read.sec, .int .u32 a.after.read.nano, .int .u32 a.after.write.sec, .int .u32 a.after.write.nano, .int .u32 a.after.turn.sec, .int .u32 a.after.turn.nano])).run Try.prog w = .ok (.bool true) w := by
  go_simp
end Go.Proofs.Ytkaapdnjlmceoaa
namespace Go.Proofs.Ytkaapdnjlmceoaa
open Go.RowKit
section
variable {w : World}
set_option maxRecDepth 100000 in
set_option maxHeartbeats 8000000 in
theorem LAttrsWeakBack {a : Wk} (ha : a.wf) {A : Option Addr} {n cap : Nat} {xs : List UInt8} (hX : Bs w A n xs) (hnc : n ≤ cap) (hnil : A = none → cap = 0) {c : Nat} (hc : c < 256) :
    Calls Try.prog 10 #[eWeak a, .slice A n cap, .int .u8 c] w fun e w' => e = .returned (.bool true) ∧ Below w.heap.size w w' := by
  have hn := hX.2.1
  have HX := Lib.hid hX
  have HP := Lib.hid (fun w => PutWeak_go (w := w) ha)
  have HE := Lib.hid (Err1.weak a)
  have HA := Lib.hid ha
  have heq := eqs_weak a
  obtain ⟨k, hkN⟩ : ∃ k, weakN a = k := ⟨_, rfl⟩
  have hk := weakN_le a
  rw [hkN] at hk
  obtain ⟨hk1, hk2, hk4⟩ := hk
  obtain ⟨j, hj, hjk⟩ : ∃ j : Nat, (c : Int) % (k : Int) = j ∧ j < k := ⟨c % k, by omega, Nat.mod_lt _ (by omega)⟩
  have hk5 : (((k : Int) % 4) != 0) = false := by simp; omega
  clear hk4
  have HL := Lib.hid (show Len (catP (weakL a)) k by rw [← hkN]; exact Len.weak a)
  clear hX ha
  simp only [eWeak, Wk.cells] at HP ⊢
  by_cases hb : 1048576 < n
  · have hd := Lib.hid (decide_eq_true hb)
    clear hb HP HL HE HA heq
    go_enter Try.func10, Try.ntmps10
    go_wp2_with (first
      | (go_at_call 22; refine Calls.mono alive_any ?_; rintro e w1 ⟨rfl, b1⟩; (have hB : Below w.heap.size w _ := bl_then (by (with_reducible (repeat' (first | exact Below.refl _ _ | assumption | apply bl_alloc | apply bl_drewN | apply bl_drew | refine bl_set ?_ ?_ _))) <;> (first | done | (simp; done) | (simp; omega) | omega)) b1); clear b1)
      | (go_at_call 13; refine Calls.mono (Beyond_one _ n hn (by simp [go_sem])) ?_; rw [hd.out]; rintro e w2 ⟨rfl, rfl⟩))
    go_ret
    exact ⟨rfl, by (with_reducible (repeat' (first | exact Below.refl _ _ | assumption | apply bl_alloc | apply bl_drewN | apply bl_drew | refine bl_set ?_ ?_ _))) <;> (first | done | (simp; done) | (simp; omega) | omega)⟩
  · have hd := Lib.hid (decide_eq_false hb)
    have hle := Lib.hid (show n ≤ 1048576 by omega)
    clear hb
    go_enter Try.func10, Try.ntmps10
    have oA := OwnL.made w [Value.bool a.hasBefore, .int .u64 a.size, .int .u32 a.write.sec, .int .u32 a.write.nano, .int .u32 a.turn.sec, .int .u32 a.turn.nano, .bool a.hasAfter, .int .u32 a.after.kind, .int .u32 a.after.mode, .int .u32 a.after.links, .int .u32 a.after.user, .int .u32 a.after.group, .int .u64 a.after.size, .int .u64 a.after.used, .int .u64 a.after.id, .int .u32 a.after.read.sec, .int .u32 a.after.read.nano, .int .u32 a.after.write.sec, .int .u32 a.after.write.nano, .int .u32 a.after.turn.sec, .int .u32 a.after.turn.nano] 43
    go_upto_region 3 with (first
      | (go_at_call 22; refine Calls.mono alive_any ?_; rintro e w1 ⟨rfl, b1⟩; (try have oA := OwnL.trk oA (bl_then (by (with_reducible (repeat' (first | exact Below.refl _ _ | assumption | apply bl_alloc | apply bl_drewN | apply bl_drew | refine bl_set ?_ ?_ _))) <;> (first | done | (simp; done) | (simp; omega) | omega)) b1)); (try have oB := OwnL.trk oB (bl_then (by (with_reducible (repeat' (first | exact Below.refl _ _ | assumption | apply bl_alloc | apply bl_drewN | apply bl_drew | refine bl_set ?_ ?_ _))) <;> (first | done | (simp; done) | (simp; omega) | omega)) b1)); (try have oC := OwnL.trk oC (bl_then (by (with_reducible (repeat' (first | exact Below.refl _ _ | assumption | apply bl_alloc | apply bl_drewN | apply bl_drew | refine bl_set ?_ ?_ _))) <;> (first | done | (simp; done) | (simp; omega) | omega)) b1)); (try have oD := OwnL.trk oD (bl_then (by (with_reducible (repeat' (first | exact Below.refl _ _ | assumption | apply bl_alloc | apply bl_drewN | apply bl_drew | refine bl_set ?_ ?_ _))) <;> (first | done | (simp; done) | (simp; omega) | omega)) b1)); (try have HX := Lib.hid (HX.out.below (bl_then (by (with_reducible (repeat' (first | exact Below.refl _ _ | assumption | apply bl_alloc | apply bl_drewN | apply bl_drew | refine bl_set ?_ ?_ _))) <;> (first | done | (simp; done) | (simp; omega) | omega)) b1))); (try have HX1 := Lib.hid (HX1.out.below (bl_then (by (with_reducible (repeat' (first | exact Below.refl _ _ | assumption | apply bl_alloc | apply bl_drewN | apply bl_drew | refine bl_set ?_ ?_ _))) <;> (first | done | (simp; done) | (simp; omega) | omega)) b1))); (try have HX2 := Lib.hid (HX2.out.below (bl_then (by (with_reducible (repeat' (first | exact Below.refl _ _ | assumption | apply bl_alloc | apply bl_drewN | apply bl_drew | refine bl_set ?_ ?_ _))) <;> (first | done | (simp; done) | (simp; omega) | omega)) b1))); (try have HX3 := Lib.hid (HX3.out.below (bl_then (by (with_reducible (repeat' (first | exact Below.refl _ _ | assumption | apply bl_alloc | apply bl_drewN | apply bl_drew | refine bl_set ?_ ?_ _))) <;> (first | done | (simp; done) | (simp; omega) | omega)) b1))); (try have HX4 := Lib.hid (HX4.out.below (bl_then (by (with_reducible (repeat' (first | exact Below.refl _ _ | assumption | apply bl_alloc | apply bl_drewN | apply bl_drew | refine bl_set ?_ ?_ _))) <;> (first | done | (simp; done) | (simp; omega) | omega)) b1))); (try have HO := Lib.hid (HO.out.below (bl_then (by (with_reducible (repeat' (first | exact Below.refl _ _ | assumption | apply bl_alloc | apply bl_drewN | apply bl_drew | refine bl_set ?_ ?_ _))) <;> (first | done | (simp; done) | (simp; omega) | omega)) b1))); (try have HO1 := Lib.hid (HO1.out.below (bl_then (by (with_reducible (repeat' (first | exact Below.refl _ _ | assumption | apply bl_alloc | apply bl_drewN | apply bl_drew | refine bl_set ?_ ?_ _))) <;> (first | done | (simp; done) | (simp; omega) | omega)) b1))); (try have HO2 := Lib.hid (HO2.out.below (bl_then (by (with_reducible (repeat' (first | exact Below.refl _ _ | assumption | apply bl_alloc | apply bl_drewN | apply bl_drew | refine bl_set ?_ ?_ _))) <;> (first | done | (simp; done) | (simp; omega) | omega)) b1))); (try have HO3 := Lib.hid (HO3.out.below (bl_then (by (with_reducible (repeat' (first | exact Below.refl _ _ | assumption | apply bl_alloc | apply bl_drewN | apply bl_drew | refine bl_set ?_ ?_ _))) <;> (first | done | (simp; done) | (simp; omega) | omega)) b1))); (have hB : Below w.heap.size w _ := bl_then (by (with_reducible (repeat' (first | exact Below.refl _ _ | assumption | apply bl_alloc | apply bl_drewN | apply bl_drew | refine bl_set ?_ ?_ _))) <;> (first | done | (simp; done) | (simp; omega) | omega)) b1); clear b1)
      | (go_at_call 13; refine Calls.mono (Beyond_one _ n hn (by simp [go_sem])) ?_; rw [hd.out]; rintro e w2 ⟨rfl, rfl⟩))
    go_upto_region 4 with (first | (refine wpList_load_own (by rfl) 43 _ rfl rfl (OwnL.trk oA (by (with_reducible (repeat' (first | exact Below.refl _ _ | assumption | apply bl_alloc | apply bl_drewN | apply bl_drew | refine bl_set ?_ ?_ _))) <;> (first | done | (simp; done) | (simp; omega) | omega))) _ Try.underlying43 rfl (by kernel_rfl) ?_) | (go_at_call 26; refine Calls.mono (HP.out _) ?_; intro e w3 hp; have hz := oA.1; obtain ⟨b3, hp⟩ := hp.twoN HE.out HL.out; (try have oA := OwnL.trk oA (bl_then (by (with_reducible (repeat' (first | exact Below.refl _ _ | assumption | apply bl_alloc | apply bl_drewN | apply bl_drew | refine bl_set ?_ ?_ _))) <;> (first | done | (simp; done) | (simp; omega) | omega)) b3)); (try have oB := OwnL.trk oB (bl_then (by (with_reducible (repeat' (first | exact Below.refl _ _ | assumption | apply bl_alloc | apply bl_drewN | apply bl_drew | refine bl_set ?_ ?_ _))) <;> (first | done | (simp; done) | (simp; omega) | omega)) b3)); (try have oC := OwnL.trk oC (bl_then (by (with_reducible (repeat' (first | exact Below.refl _ _ | assumption | apply bl_alloc | apply bl_drewN | apply bl_drew | refine bl_set ?_ ?_ _))) <;> (first | done | (simp; done) | (simp; omega) | omega)) b3)); (try have oD := OwnL.trk oD (bl_then (by (with_reducible (repeat' (first | exact Below.refl _ _ | assumption | apply bl_alloc | apply bl_drewN | apply bl_drew | refine bl_set ?_ ?_ _))) <;> (first | done | (simp; done) | (simp; omega) | omega)) b3)); (try have HX := Lib.hid (HX.out.below (bl_then (by (with_reducible (repeat' (first | exact Below.refl _ _ | assumption | apply bl_alloc | apply bl_drewN | apply bl_drew | refine bl_set ?_ ?_ _))) <;> (first | done | (simp; done) | (simp; omega) | omega)) b3))); (try have HX1 := Lib.hid (HX1.out.below (bl_then (by (with_reducible (repeat' (first | exact Below.refl _ _ | assumption | apply bl_alloc | apply bl_drewN | apply bl_drew | refine bl_set ?_ ?_ _))) <;> (first | done | (simp; done) | (simp; omega) | omega)) b3))); (try have HX2 := Lib.hid (HX2.out.below (bl_then (by (with_reducible (repeat' (first | exact Below.refl _ _ | assumption | apply bl_alloc | apply bl_drewN | apply bl_drew | refine bl_set ?_ ?_ _))) <;> (first | done | (simp; done) | (simp; omega) | omega)) b3))); (try have HX3 := Lib.hid (HX3.out.below (bl_then (by (with_reducible (repeat' (first | exact Below.refl _ _ | assumption | apply bl_alloc | apply bl_drewN | apply bl_drew | refine bl_set ?_ ?_ _))) <;> (first | done | (simp; done) | (simp; omega) | omega)) b3))); (try have HX4 := Lib.hid (HX4.out.below (bl_then (by (with_reducible (repeat' (first | exact Below.refl _ _ | assumption | apply bl_alloc | apply bl_drewN | apply bl_drew | refine bl_set ?_ ?_ _))) <;> (first | done | (simp; done) | (simp; omega) | omega)) b3))); (try have HO := Lib.hid (HO.out.below (bl_then (by (with_reducible (repeat' (first | exact Below.refl _ _ | assumption | apply bl_alloc | apply bl_drewN | apply bl_drew | refine bl_set ?_ ?_ _))) <;> (first | done | (simp; done) | (simp; omega) | omega)) b3))); (try have HO1 := Lib.hid (HO1.out.below (bl_then (by (with_reducible (repeat' (first | exact Below.refl _ _ | assumption | apply bl_alloc | apply bl_drewN | apply bl_drew | refine bl_set ?_ ?_ _))) <;> (first | done | (simp; done) | (simp; omega) | omega)) b3))); (try have HO2 := Lib.hid (HO2.out.below (bl_then (by (with_reducible (repeat' (first | exact Below.refl _ _ | assumption | apply bl_alloc | apply bl_drewN | apply bl_drew | refine bl_set ?_ ?_ _))) <;> (first | done | (simp; done) | (simp; omega) | omega)) b3))); (try have HO3 := Lib.hid (HO3.out.below (bl_then (by (with_reducible (repeat' (first | exact Below.refl _ _ | assumption | apply bl_alloc | apply bl_drewN | apply bl_drew | refine bl_set ?_ ?_ _))) <;> (first | done | (simp; done) | (simp; omega) | omega)) b3))); (have hB : Below w.heap.size w _ := bl_then (by (with_reducible (repeat' (first | exact Below.refl _ _ | assumption | apply bl_alloc | apply bl_drewN | apply bl_drew | refine bl_set ?_ ?_ _))) <;> (first | done | (simp; done) | (simp; omega) | omega)) b3); clear b3; rcases hp with ⟨bs, G, gc, hr, hbl, rfl, hgc, hmax, hbs, hO⟩ | ⟨hr, rfl⟩))
    · have HBS := Lib.hid hbs
      have HO := Lib.hid hO
      have HR := Lib.hid hr
      have hbx : w.heap.size < (w1.alloc (.cells #[.int .i64 n] 3)).heap.size := by simp; omega
      obtain ⟨base, hbase⟩ : ∃ m, (w1.alloc (.cells #[.int .i64 n] 3)).heap.size = m := ⟨_, rfl⟩
      rw [hbase] at HO hbx
      have HBL := Lib.hid hbl
      have HJ := Lib.hid hj
      have hGa := Lib.hid (fun W (hW : Bs W G j (bs.take j)) => (Calls.mono (GetWeak_any (cap := gc) hW (by omega)) fun e w' h => h.bad (lawful_weak.short _ _ HA.out hr j (by rw [hbl]; omega)) : Calls Try.prog 20 #[.slice G j gc] W fun e w' => e = .returned (.tuple #[eWeak Wk.zero, .int .i64 0, .int .i64 4]) ∧ Below W.heap.size W w'))
      have hGb := Lib.hid (fun W G2 c2 (hW : Bs W G2 (k + n) (bs ++ xs)) (hc2 : k + n ≤ c2) => (Calls.mono (GetWeak_any hW hc2) fun e w' h => h.good (v := a) (k := k) (by rw [lawful_weak.back _ _ HA.out hr xs, hbl]) : Calls Try.prog 20 #[.slice G2 (k + n) c2] W fun e w' => e = .returned (.tuple #[eWeak a, .int .i64 k, .int .i64 0]) ∧ Below W.heap.size W w'))
      have hlen : Hid ((bs ++ xs).length = k + n) := Lib.hid (by rw [List.length_append, hbl, HX.out.1])
      simp only [eWeak, Wk.cells, Wk.zero, At.zero] at hGa hGb
      clear hr hbl hbs hO hz HP HL HE
      go_wp2_with (first
        | (go_at_call 20; ((with_reducible refine Calls.mono (hGa.out _ (HBS.out.take j (by omega))) ?_); rintro e w4 ⟨rfl, b4⟩); (have oA := oA.trk b4); (have HO := Lib.hid (HO.out.below b4)); (have HX := Lib.hid (HX.out.below b4)); (have hB : Below w.heap.size w w4 := bl_then hB b4); clear b4)
        | (go_at_call 20; ((with_reducible refine Calls.mono (hGb.out _ _ _ hv2.out hc2) ?_); rintro e w6 ⟨rfl, b6⟩); (have oA := oA.trk b6); (have hB : Below w.heap.size w w6 := bl_then hB b6); clear b6)
        | (at_builtin; go_loud (refine wp_append_bs rfl _ _ rfl rfl rfl HO.out HX.out hnil (by have := HBL.out; have := hle.out; omega) (HO.out.base_le (by have := HBL.out; omega)) ?_; intro v' w5 hO' b5; (obtain ⟨G2, c2, hv, hc2, hBv⟩ := hO'.two); (rw [hlen.out] at hv hc2 hBv); (subst hv); (have hv2 := Lib.hid hBv); (have oA := oA.belowm b5 hbx); (have hB : Below w.heap.size w w5 := hB.trans (b5.mono (by omega))); clear b5 hBv hO'))
        | (refine wpList_store_new rfl 43 _ _ rfl [Value.bool false, .int .u64 0, .int .u32 0, .int .u32 0, .int .u32 0, .int .u32 0, .bool false, .int .u32 0, .int .u32 0, .int .u32 0, .int .u32 0, .int .u32 0, .int .u64 0, .int .u64 0, .int .u64 0, .int .u32 0, .int .u32 0, .int .u32 0, .int .u32 0, .int .u32 0, .int .u32 0] rfl rfl rfl (by kernel_rfl) (by simp [Value.oneCell']) ?_; intro wa ba oB; (have oA := oA.trk ba); (have HO := Lib.hid (HO.out.below ba)); (have HX := Lib.hid (HX.out.below ba)); (have hB : Below w.heap.size w wa := bl_then hB ba); clear ba)
        | (refine wpList_store_new rfl 43 _ _ rfl [Value.bool a.hasBefore, .int .u64 a.size, .int .u32 a.write.sec, .int .u32 a.write.nano, .int .u32 a.turn.sec, .int .u32 a.turn.nano, .bool a.hasAfter, .int .u32 a.after.kind, .int .u32 a.after.mode, .int .u32 a.after.links, .int .u32 a.after.user, .int .u32 a.after.group, .int .u64 a.after.size, .int .u64 a.after.used, .int .u64 a.after.id, .int .u32 a.after.read.sec, .int .u32 a.after.read.nano, .int .u32 a.after.write.sec, .int .u32 a.after.write.nano, .int .u32 a.after.turn.sec, .int .u32 a.after.turn.nano] rfl rfl rfl (by kernel_rfl) (by simp [Value.oneCell']) ?_; intro wb bb oB; (have oA := oA.trk bb); (have hB : Below w.heap.size w wb := bl_then hB bb); clear bb)
        | (refine wpList_load_own (by kernel_rfl) 43 _ rfl rfl oB _ Try.underlying43 rfl (by kernel_rfl) ?_)
        | (refine wpList_load_own (by kernel_rfl) 43 _ rfl rfl oA _ Try.underlying43 rfl (by kernel_rfl) ?_))
      go_ret
      exact ⟨rfl, by (with_reducible (repeat' (first | exact Below.refl _ _ | assumption | apply bl_alloc | apply bl_drewN | apply bl_drew | refine bl_set ?_ ?_ _))) <;> (first | done | (simp; done) | (simp; omega) | omega)⟩
    · clear HP HL HE hr
      go_wp2_with fail
      go_ret
      exact ⟨rfl, by (with_reducible (repeat' (first | exact Below.refl _ _ | assumption | apply bl_alloc | apply bl_drewN | apply bl_drew | refine bl_set ?_ ?_ _))) <;> (first | done | (simp; done) | (simp; omega) | omega)⟩
end
end Go.Proofs.Ytkaapdnjlmceoaa
namespace Go.Proofs.Ytkaapdnjlmceoaa
open Go.ChangeShapes Go.WideShapes Go.ChangeAt Go.RowKit

set_option maxRecDepth 100000 in
theorem attrsWeakBack_lifted (os : Os) (started : os.Started) (H : Type) (enc : TypeId × Value → H) :
    ReturnsInHanded {} Try.checked os 10 .any (Rows.attrsWeakBackSpec.pre6 enc Try.prog Try.f10 Rows.attrsWeakBackRow.domain false) (Rows.attrsWeakBackSpec.post enc Try.prog Try.f10 false true false false) := by
  refine returnsInHanded_of_change (C := Try.checked) own started (by kernel_rfl) Try.func10
    (ChangeSpec.witness6 (enc := enc) (C := Try.checked) false ⟨#[], #[.agg #[.bool false, .int .u64 0, .int .u32 0, .int .u32 0, .int .u32 0, .int .u32 0, .bool false, .int .u32 0, .int .u32 0, .int .u32 0, .int .u32 0, .int .u32 0, .int .u64 0, .int .u64 0, .int .u64 0, .int .u32 0, .int .u32 0, .int .u32 0, .int .u32 0, .int .u32 0, .int .u32 0], .slice none 0 0, .int .u8 0], []⟩ 8 (by kernel_rfl) (by kernel_rfl) (by kernel_rfl) (by kernel_rfl)) ?_
  intro W base args ds gs before hval0 hW hcnd _
  have hval : ∀ (j : Nat) t v, Try.f10.params[j]? = some t → args[j]? = some v → Value.okWide Try.prog W .any base t v := hval0
  have hW' := hW
  obtain ⟨p, q, hA0, hV, rfl, hfz, hnd⟩ := hW
  have hA : DataW.TrodAll enc Try.prog W 0 (fun _ => true) true Try.f10.params.toList args.toList ds p := hA0
  rw [Try.params10] at hA hval
  obtain ⟨v0, vs0, d0, ds0, p0, q0, hargs, rfl, rfl, h0, r0⟩ := trodAll_cons hA
  obtain ⟨v1, vs1, d1, ds1, p1, q1, rfl, rfl, rfl, h1, r1⟩ := trodAll_cons r0
  obtain ⟨v2, vs2, d2, ds2, p2, q2, rfl, rfl, rfl, h2, r2⟩ := trodAll_cons r1
  obtain ⟨rfl, rfl, rfl⟩ := trodAll_nil r2
  obtain rfl : args = #[v0, v1, v2] := by cases args; simp_all
  obtain ⟨rfl, rfl⟩ := trodVars_none hV
  have k0 := h0
  have lt0 : ∀ x ∈ p0, x.block < W.heap.size := by obtain ⟨m, hm⟩ := k0; exact DataW.trod_lt m _ _ _ hm
  have k1 := h1
  have lt1 : ∀ x ∈ p1, x.block < W.heap.size := by obtain ⟨m, hm⟩ := k1; exact DataW.trod_lt m _ _ _ hm
  have k2 := h2
  have lt2 : ∀ x ∈ p2, x.block < W.heap.size := by obtain ⟨m, hm⟩ := k2; exact DataW.trod_lt m _ _ _ hm
  obtain ⟨a0, w0, rfl⟩ := open_weak (hval 0 43 v0 rfl rfl) h0
  obtain ⟨A1, l1, c1, xs1, rfl, w1, x1, y1⟩ := open_bytes Try.underlying22 Try.underlying5 (by kernel_rfl) (hval 1 22 v1 rfl rfl) h1
  obtain ⟨n2, w2, rfl⟩ := open_u8 Try.underlying5 (hval 2 5 v2 rfl rfl) h2
  clear hA0 hval0
  refine (LAttrsWeakBack w0 w1 x1 y1 w2).mono fun e W' ⟨he, bel⟩ => ?_
  subst he
  exact ⟨_, rfl, _, _, _, [], _, [], hW', trodAll_mk1 (shut_bool Try.underlying4 _), (trodAll_cons_mk (Below.trod laidOut (by kernel_rfl) (of_decide_eq_true (by kernel_rfl)) k0 bel lt0) (trodAll_cons_mk (Below.trod laidOut (by kernel_rfl) (of_decide_eq_true (by kernel_rfl)) k1 bel lt1) (trodAll_cons_mk (Below.trod laidOut (by kernel_rfl) (of_decide_eq_true (by kernel_rfl)) k2 bel lt2) trodAll_mk0))), rfl, bel.frame _, fun h => by cases h⟩

theorem attrsWeakBack_over : Rows.attrsWeakBackRow.holds Try.pinned (OpenSpec.ofChange Rows.attrsWeakBackSpec) :=
  OpenClaim.holds_of_wide 10 Try.f10 rfl rfl rfl rfl rfl rfl rfl ⟨rfl, rfl, rfl, rfl, rfl⟩ rfl rfl rfl rfl rfl (by kernel_rfl) Try.func10 (by kernel_rfl)
    (of_decide_eq_true (by kernel_rfl)) (by unfold Func.isWrapper; first | (rw [if_pos (by decide +kernel)]; kernel_rfl) | (rw [if_neg (by decide +kernel)]; exact ⟨rfl, rfl⟩))
    (fun os started H enc _ => attrsWeakBack_lifted os started H enc)

theorem attrsWeakBack_proved : Rows.AttrsWeakBackSaid := attrsWeakBack_over
#print axioms attrsWeakBack_proved
end Go.Proofs.Ytkaapdnjlmceoaa

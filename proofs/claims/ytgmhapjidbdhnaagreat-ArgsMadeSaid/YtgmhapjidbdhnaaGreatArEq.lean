/- args.all: 19 interface values; whether two of these are equal. Printed by gen_areq.py. -/
import Derived.Test.YtgmhapjidbdhnaaGreatArGet
import Derived.ChangeKeysEq
import Derived.Laws.StructEq
set_option linter.unusedVariables false
set_option linter.unusedSimpArgs false
namespace Go.Proofs.YtgmhapjidbdhnaaGreat
open Go.RowKit
/-- Comparing comes to p. -/
def EqP (d : Nat) (t : TypeId) (x y : Value) (p : Prop) : Prop := ∃ r : Bool, (r = true ↔ p) ∧ ∀ w, (Op.equalIn d t x y).run Tryz.prog w = .ok r w
theorem EqP.int {d : Nat} {t : TypeId} {k q : IntKind} (a b : Nat) (h : Tryz.prog.underlying t = some (.int q)) : EqP (d + 1) t (.int k a) (.int k b) (a = b) :=
  ⟨_, by rw [beq_nat_int]; exact beq_iff_eq, fun w => run_equalIn_int w d t k q a b h⟩
theorem EqP.bool {d : Nat} {t : TypeId} (a b : Bool) (h : Tryz.prog.underlying t = some .bool) : EqP (d + 1) t (.bool a) (.bool b) (a = b) :=
  ⟨_, beq_iff_eq, fun w => run_equalIn_bool w d t a b h⟩
theorem EqP.str {d : Nat} {t : TypeId} (a b : List UInt8) (h : Tryz.prog.underlying t = some .string) : EqP (d + 1) t (strV a) (strV b) (a = b) :=
  ⟨_, by simp [ByteArray.toList_eq], fun w => run_equalIn_string w d t _ _ h⟩
/-- Two interface values of one type. -/
theorem EqP.iface {d : Nat} {t u : TypeId} {ms : Array (String × TypeId)} {x y : Value} {p : Prop} (h : EqP d u x y p) (ht : Tryz.prog.underlying t = some (.interface ms)) (hc : (Tryz.prog.info? u).map (·.comparable) = some true) : EqP (d + 1) t (.iface u x) (.iface u y) p := by
  obtain ⟨r, h1, h2⟩ := h
  refine ⟨r, h1, fun w => ?_⟩
  cases hi : Tryz.prog.info? u with
  | none => simp [hi] at hc
  | some i =>
    have hcc : i.comparable = true := by simpa [hi] using hc
    simp [Op.equalIn, run_underlying ht, typeInfo, hi, hcc]
    exact h2 w
def FldP (d : Nat) (xs ys : Array Value) (fs : List Field) (p : Prop) : Prop := ∃ r : Bool, (r = true ↔ p) ∧ ∀ w, (Op.eqFields d xs ys fs).run Tryz.prog w = .ok r w
theorem FldP.nil {d : Nat} {xs ys : Array Value} : FldP d xs ys [] True := ⟨true, by simp, fun w => rfl⟩
theorem FldP.cons {d : Nat} {xs ys : Array Value} {f : Field} {fs : List Field} {p q : Prop} (a b : Value) (hn : f.name ≠ "_") (ha : ∀ w, (part f.type xs f.offset).run Tryz.prog w = .ok a w) (hb : ∀ w, (part f.type ys f.offset).run Tryz.prog w = .ok b w) (h : EqP d f.type a b p) (k : FldP d xs ys fs q) : FldP d xs ys (f :: fs) (p ∧ q) := by
  obtain ⟨r, h1, h2⟩ := h
  obtain ⟨r', k1, k2⟩ := k
  refine ⟨r && r', by rw [Bool.and_eq_true, h1, k1], fun w => ?_⟩
  simp only [Op.eqFields, hn, ne_eq, not_false_eq_true, if_true, Sem.run_bind, ha w, hb w, h2 w, Result.andThen_ok]
  cases r
  · rfl
  · simpa using k2 w
theorem FldP.at {d i : Nat} {l : List Field} {xs ys : Array Value} {p q : Prop} (ty : TypeId) (off : Nat) (a b : Value) (hi : (l[i]?).map (fun f => (f.name != "_", f.type, f.offset)) = some (true, ty, off)) (ha : ∀ w, (part ty xs off).run Tryz.prog w = .ok a w) (hb : ∀ w, (part ty ys off).run Tryz.prog w = .ok b w) (h : EqP d ty a b p) (k : FldP d xs ys (l.drop (i + 1)) q) : FldP d xs ys (l.drop i) (p ∧ q) := by
  cases hl : l[i]? with
  | none => rw [hl] at hi; cases hi
  | some f =>
    rw [hl] at hi
    simp only [Option.map_some, Option.some.injEq, Prod.mk.injEq, bne_iff_ne] at hi
    obtain ⟨h1, rfl, rfl⟩ := hi
    obtain ⟨hlt, he⟩ := List.getElem?_eq_some_iff.1 hl
    rw [List.drop_eq_getElem_cons hlt, he]
    exact FldP.cons a b h1 ha hb h k
theorem FldP.done {d i : Nat} {l : List Field} {xs ys : Array Value} (hl : l.length = i) : FldP d xs ys (l.drop i) True := by
  rw [← hl, List.drop_length]
  exact FldP.nil
theorem EqP.strct {d : Nat} {t : TypeId} {xs ys : Array Value} {p : Prop} (h : FldP d xs ys ((Tryz.prog.fieldsOf t).toList.drop 0) p) (ht : Tryz.prog.underlying t = some (.struct (Tryz.prog.fieldsOf t))) (hs : Tryz.prog.stoodInHeld t = false) : EqP (d + 1) t (.agg xs) (.agg ys) p := by
  obtain ⟨r, h1, h2⟩ := h
  refine ⟨r, h1, fun w => ?_⟩
  rw [run_equalIn_agg w d t xs ys ht hs]
  exact h2 w
def ItmP (d : Nat) (e : TypeId) (c : Nat) (xs ys : Array Value) (is : List Nat) (p : Prop) : Prop := ∃ r : Bool, (r = true ↔ p) ∧ ∀ w, (Op.eqItems d e c xs ys is).run Tryz.prog w = .ok r w
theorem ItmP.nil {d c : Nat} {e : TypeId} {xs ys : Array Value} : ItmP d e c xs ys [] True := ⟨true, by simp, fun w => rfl⟩
theorem ItmP.cons {d c i : Nat} {e : TypeId} {xs ys : Array Value} {is : List Nat} {p q : Prop} (a b : Value) (ha : ∀ w, (part e xs (i * c)).run Tryz.prog w = .ok a w) (hb : ∀ w, (part e ys (i * c)).run Tryz.prog w = .ok b w) (h : EqP d e a b p) (k : ItmP d e c xs ys is q) : ItmP d e c xs ys (i :: is) (p ∧ q) := by
  obtain ⟨r, h1, h2⟩ := h
  obtain ⟨r', k1, k2⟩ := k
  refine ⟨r && r', by rw [Bool.and_eq_true, h1, k1], fun w => ?_⟩
  simp only [Op.eqItems, Sem.run_bind, ha w, hb w, h2 w, Result.andThen_ok]
  cases r
  · rfl
  · simpa using k2 w
theorem EqP.arr {d n c : Nat} {t e : TypeId} {xs ys : Array Value} {p : Prop} (h : ItmP d e c xs ys (List.range n) p) (ht : Tryz.prog.underlying t = some (.array n e)) (hi : ∃ i, Tryz.prog.info? e = some i) (hc : Tryz.prog.cellsOf e = c) : EqP (d + 1) t (.agg xs) (.agg ys) p := by
  obtain ⟨r, h1, h2⟩ := h
  obtain ⟨i, hi⟩ := hi
  refine ⟨r, h1, fun w => ?_⟩
  rw [run_equalIn_array w d xs ys ht hi, hc]
  exact h2 w
theorem EqP.imp {d : Nat} {t : TypeId} {x y : Value} {p q : Prop} (h : EqP d t x y p) (hpq : p ↔ q) : EqP d t x y q := by
  obtain ⟨r, h1, h2⟩ := h
  exact ⟨r, h1.trans hpq, h2⟩
theorem eq_time {d : Nat} (a b : Tm) : EqP (d + 2) 28 (.agg (encT a).toArray) (.agg (encT b).toArray) (a = b) := by
  refine (EqP.strct (p := a.sec = b.sec ∧ a.nano = b.nano ∧ True) ?_ (by kernel_rfl) (by kernel_rfl)).imp ?_
  · refine FldP.at 22 0 (.int .u32 a.sec) (.int .u32 b.sec) (by kernel_rfl) (fun w => by kernel_rfl) (fun w => by kernel_rfl) (EqP.int _ _ Tryz.underlying22) ?_
    refine FldP.at 22 1 (.int .u32 a.nano) (.int .u32 b.nano) (by kernel_rfl) (fun w => by kernel_rfl) (fun w => by kernel_rfl) (EqP.int _ _ Tryz.underlying22) ?_
    exact FldP.done (by kernel_rfl)
  · obtain ⟨a1, a2⟩ := a; obtain ⟨b1, b2⟩ := b
    simp
theorem eq_set {d : Nat} (a b : St) : EqP (d + 3) 30 (.agg (encSet a).toArray) (.agg (encSet b).toArray) (a = b) := by
  refine (EqP.strct (p := a.hasMode = b.hasMode ∧ a.mode = b.mode ∧ a.hasUser = b.hasUser ∧ a.user = b.user ∧ a.hasGroup = b.hasGroup ∧ a.group = b.group ∧ a.hasSize = b.hasSize ∧ a.size = b.size ∧ a.readHow = b.readHow ∧ a.read = b.read ∧ a.writeHow = b.writeHow ∧ a.write = b.write ∧ True) ?_ (by kernel_rfl) (by kernel_rfl)).imp ?_
  · refine FldP.at 4 0 (.bool a.hasMode) (.bool b.hasMode) (by kernel_rfl) (fun w => by kernel_rfl) (fun w => by kernel_rfl) (EqP.bool _ _ Tryz.underlying4) ?_
    refine FldP.at 22 1 (.int .u32 a.mode) (.int .u32 b.mode) (by kernel_rfl) (fun w => by kernel_rfl) (fun w => by kernel_rfl) (EqP.int _ _ Tryz.underlying22) ?_
    refine FldP.at 4 2 (.bool a.hasUser) (.bool b.hasUser) (by kernel_rfl) (fun w => by kernel_rfl) (fun w => by kernel_rfl) (EqP.bool _ _ Tryz.underlying4) ?_
    refine FldP.at 22 3 (.int .u32 a.user) (.int .u32 b.user) (by kernel_rfl) (fun w => by kernel_rfl) (fun w => by kernel_rfl) (EqP.int _ _ Tryz.underlying22) ?_
    refine FldP.at 4 4 (.bool a.hasGroup) (.bool b.hasGroup) (by kernel_rfl) (fun w => by kernel_rfl) (fun w => by kernel_rfl) (EqP.bool _ _ Tryz.underlying4) ?_
    refine FldP.at 22 5 (.int .u32 a.group) (.int .u32 b.group) (by kernel_rfl) (fun w => by kernel_rfl) (fun w => by kernel_rfl) (EqP.int _ _ Tryz.underlying22) ?_
    refine FldP.at 4 6 (.bool a.hasSize) (.bool b.hasSize) (by kernel_rfl) (fun w => by kernel_rfl) (fun w => by kernel_rfl) (EqP.bool _ _ Tryz.underlying4) ?_
    refine FldP.at 25 7 (.int .u64 a.size) (.int .u64 b.size) (by kernel_rfl) (fun w => by kernel_rfl) (fun w => by kernel_rfl) (EqP.int _ _ Tryz.underlying25) ?_
    refine FldP.at 26 8 (.int .u32 a.readHow) (.int .u32 b.readHow) (by kernel_rfl) (fun w => by kernel_rfl) (fun w => by kernel_rfl) (EqP.int _ _ Tryz.underlying26) ?_
    refine FldP.at 28 9 (.agg (encT a.read).toArray) (.agg (encT b.read).toArray) (by kernel_rfl) (fun w => by kernel_rfl) (fun w => by kernel_rfl) (eq_time _ _) ?_
    refine FldP.at 26 11 (.int .u32 a.writeHow) (.int .u32 b.writeHow) (by kernel_rfl) (fun w => by kernel_rfl) (fun w => by kernel_rfl) (EqP.int _ _ Tryz.underlying26) ?_
    refine FldP.at 28 12 (.agg (encT a.write).toArray) (.agg (encT b.write).toArray) (by kernel_rfl) (fun w => by kernel_rfl) (fun w => by kernel_rfl) (eq_time _ _) ?_
    exact FldP.done (by kernel_rfl)
  · obtain ⟨a1, a2, a3, a4, a5, a6, a7, a8, a9, a10, a11, a12⟩ := a; obtain ⟨b1, b2, b3, b4, b5, b6, b7, b8, b9, b10, b11, b12⟩ := b
    simp
theorem eq_u8 {d : Nat} (a b : UInt8) : EqP (d + 1) 5 (.int .u8 (a.toNat : Int)) (.int .u8 (b.toNat : Int)) (a = b) :=
  (EqP.int a.toNat b.toNat Tryz.underlying5).imp ⟨fun h => UInt8.toNat_inj.1 h, fun h => by rw [h]⟩
theorem eq_verf {d : Nat} (a b : List UInt8) (ha : a.length = 8) (hb : b.length = 8) : EqP (d + 2) 31 (.agg (encV a).toArray) (.agg (encV b).toArray) (a = b) := by
  obtain ⟨a0, a1, a2, a3, a4, a5, a6, a7, rfl⟩ := len8 ha
  obtain ⟨b0, b1, b2, b3, b4, b5, b6, b7, rfl⟩ := len8 hb
  refine (EqP.arr (p := a0 = b0 ∧ a1 = b1 ∧ a2 = b2 ∧ a3 = b3 ∧ a4 = b4 ∧ a5 = b5 ∧ a6 = b6 ∧ a7 = b7 ∧ True) (n := 8) (c := 1) ?_ Tryz.underlying31 (Option.isSome_iff_exists.1 (by kernel_rfl)) (by kernel_rfl)).imp (by simp)
  show ItmP _ _ _ _ _ [0, 1, 2, 3, 4, 5, 6, 7] _
  refine ItmP.cons (.int .u8 (a0.toNat : Int)) (.int .u8 (b0.toNat : Int)) (fun w => by kernel_rfl) (fun w => by kernel_rfl) (eq_u8 _ _) ?_
  refine ItmP.cons (.int .u8 (a1.toNat : Int)) (.int .u8 (b1.toNat : Int)) (fun w => by kernel_rfl) (fun w => by kernel_rfl) (eq_u8 _ _) ?_
  refine ItmP.cons (.int .u8 (a2.toNat : Int)) (.int .u8 (b2.toNat : Int)) (fun w => by kernel_rfl) (fun w => by kernel_rfl) (eq_u8 _ _) ?_
  refine ItmP.cons (.int .u8 (a3.toNat : Int)) (.int .u8 (b3.toNat : Int)) (fun w => by kernel_rfl) (fun w => by kernel_rfl) (eq_u8 _ _) ?_
  refine ItmP.cons (.int .u8 (a4.toNat : Int)) (.int .u8 (b4.toNat : Int)) (fun w => by kernel_rfl) (fun w => by kernel_rfl) (eq_u8 _ _) ?_
  refine ItmP.cons (.int .u8 (a5.toNat : Int)) (.int .u8 (b5.toNat : Int)) (fun w => by kernel_rfl) (fun w => by kernel_rfl) (eq_u8 _ _) ?_
  refine ItmP.cons (.int .u8 (a6.toNat : Int)) (.int .u8 (b6.toNat : Int)) (fun w => by kernel_rfl) (fun w => by kernel_rfl) (eq_u8 _ _) ?_
  refine ItmP.cons (.int .u8 (a7.toNat : Int)) (.int .u8 (b7.toNat : Int)) (fun w => by kernel_rfl) (fun w => by kernel_rfl) (eq_u8 _ _) ?_
  exact ItmP.nil
/-- All of what is asked, as args.all tells it. -/
def allL (a : Ar) : List Value := [.iface 23 (.int .u32 a.proc), .iface 9 (strV a.h), .iface 9 (strV a.name), .iface 9 (strV a.h2), .iface 9 (strV a.name2), .iface 30 (.agg (encSet a.set).toArray), .iface 4 (.bool a.hasGuard), .iface 28 (.agg (encT a.guard).toArray), .iface 22 (.int .u32 a.bits), .iface 25 (.int .u64 a.offset), .iface 22 (.int .u32 a.count), .iface 22 (.int .u32 a.max), .iface 22 (.int .u32 a.stable), .iface 9 (strV a.data), .iface 9 (strV a.target), .iface 22 (.int .u32 a.how), .iface 22 (.int .u32 a.kind), .iface 31 (.agg (encV a.verf).toArray), .iface 25 (.int .u64 a.cookie)]
theorem eq_all {d : Nat} (a b : Ar) (ha : a.verf.length = 8) (hb : b.verf.length = 8) : EqP (d + 5) 71 (.agg (allL a).toArray) (.agg (allL b).toArray) (a = b) := by
  refine (EqP.arr (p := a.proc = b.proc ∧ a.h = b.h ∧ a.name = b.name ∧ a.h2 = b.h2 ∧ a.name2 = b.name2 ∧ a.set = b.set ∧ a.hasGuard = b.hasGuard ∧ a.guard = b.guard ∧ a.bits = b.bits ∧ a.offset = b.offset ∧ a.count = b.count ∧ a.max = b.max ∧ a.stable = b.stable ∧ a.data = b.data ∧ a.target = b.target ∧ a.how = b.how ∧ a.kind = b.kind ∧ a.verf = b.verf ∧ a.cookie = b.cookie ∧ True) (n := 19) (c := 1) ?_ Tryz.underlying71 (Option.isSome_iff_exists.1 (by kernel_rfl)) (by kernel_rfl)).imp ?_
  · show ItmP _ _ _ _ _ [0, 1, 2, 3, 4, 5, 6, 7, 8, 9, 10, 11, 12, 13, 14, 15, 16, 17, 18] _
    refine ItmP.cons (.iface 23 (.int .u32 a.proc)) (.iface 23 (.int .u32 b.proc)) (fun w => by kernel_rfl) (fun w => by kernel_rfl) ((EqP.int _ _ Tryz.underlying23).iface Tryz.underlying20 (by kernel_rfl)) ?_
    refine ItmP.cons (.iface 9 (strV a.h)) (.iface 9 (strV b.h)) (fun w => by kernel_rfl) (fun w => by kernel_rfl) ((EqP.str _ _ Tryz.underlying9).iface Tryz.underlying20 (by kernel_rfl)) ?_
    refine ItmP.cons (.iface 9 (strV a.name)) (.iface 9 (strV b.name)) (fun w => by kernel_rfl) (fun w => by kernel_rfl) ((EqP.str _ _ Tryz.underlying9).iface Tryz.underlying20 (by kernel_rfl)) ?_
    refine ItmP.cons (.iface 9 (strV a.h2)) (.iface 9 (strV b.h2)) (fun w => by kernel_rfl) (fun w => by kernel_rfl) ((EqP.str _ _ Tryz.underlying9).iface Tryz.underlying20 (by kernel_rfl)) ?_
    refine ItmP.cons (.iface 9 (strV a.name2)) (.iface 9 (strV b.name2)) (fun w => by kernel_rfl) (fun w => by kernel_rfl) ((EqP.str _ _ Tryz.underlying9).iface Tryz.underlying20 (by kernel_rfl)) ?_
    refine ItmP.cons (.iface 30 (.agg (encSet a.set).toArray)) (.iface 30 (.agg (encSet b.set).toArray)) (fun w => by kernel_rfl) (fun w => by kernel_rfl) ((eq_set _ _).iface Tryz.underlying20 (by kernel_rfl)) ?_
    refine ItmP.cons (.iface 4 (.bool a.hasGuard)) (.iface 4 (.bool b.hasGuard)) (fun w => by kernel_rfl) (fun w => by kernel_rfl) ((EqP.bool _ _ Tryz.underlying4).iface Tryz.underlying20 (by kernel_rfl)) ?_
    refine ItmP.cons (.iface 28 (.agg (encT a.guard).toArray)) (.iface 28 (.agg (encT b.guard).toArray)) (fun w => by kernel_rfl) (fun w => by kernel_rfl) ((eq_time _ _).iface Tryz.underlying20 (by kernel_rfl)) ?_
    refine ItmP.cons (.iface 22 (.int .u32 a.bits)) (.iface 22 (.int .u32 b.bits)) (fun w => by kernel_rfl) (fun w => by kernel_rfl) ((EqP.int _ _ Tryz.underlying22).iface Tryz.underlying20 (by kernel_rfl)) ?_
    refine ItmP.cons (.iface 25 (.int .u64 a.offset)) (.iface 25 (.int .u64 b.offset)) (fun w => by kernel_rfl) (fun w => by kernel_rfl) ((EqP.int _ _ Tryz.underlying25).iface Tryz.underlying20 (by kernel_rfl)) ?_
    refine ItmP.cons (.iface 22 (.int .u32 a.count)) (.iface 22 (.int .u32 b.count)) (fun w => by kernel_rfl) (fun w => by kernel_rfl) ((EqP.int _ _ Tryz.underlying22).iface Tryz.underlying20 (by kernel_rfl)) ?_
    refine ItmP.cons (.iface 22 (.int .u32 a.max)) (.iface 22 (.int .u32 b.max)) (fun w => by kernel_rfl) (fun w => by kernel_rfl) ((EqP.int _ _ Tryz.underlying22).iface Tryz.underlying20 (by kernel_rfl)) ?_
    refine ItmP.cons (.iface 22 (.int .u32 a.stable)) (.iface 22 (.int .u32 b.stable)) (fun w => by kernel_rfl) (fun w => by kernel_rfl) ((EqP.int _ _ Tryz.underlying22).iface Tryz.underlying20 (by kernel_rfl)) ?_
    refine ItmP.cons (.iface 9 (strV a.data)) (.iface 9 (strV b.data)) (fun w => by kernel_rfl) (fun w => by kernel_rfl) ((EqP.str _ _ Tryz.underlying9).iface Tryz.underlying20 (by kernel_rfl)) ?_
    refine ItmP.cons (.iface 9 (strV a.target)) (.iface 9 (strV b.target)) (fun w => by kernel_rfl) (fun w => by kernel_rfl) ((EqP.str _ _ Tryz.underlying9).iface Tryz.underlying20 (by kernel_rfl)) ?_
    refine ItmP.cons (.iface 22 (.int .u32 a.how)) (.iface 22 (.int .u32 b.how)) (fun w => by kernel_rfl) (fun w => by kernel_rfl) ((EqP.int _ _ Tryz.underlying22).iface Tryz.underlying20 (by kernel_rfl)) ?_
    refine ItmP.cons (.iface 22 (.int .u32 a.kind)) (.iface 22 (.int .u32 b.kind)) (fun w => by kernel_rfl) (fun w => by kernel_rfl) ((EqP.int _ _ Tryz.underlying22).iface Tryz.underlying20 (by kernel_rfl)) ?_
    refine ItmP.cons (.iface 31 (.agg (encV a.verf).toArray)) (.iface 31 (.agg (encV b.verf).toArray)) (fun w => by kernel_rfl) (fun w => by kernel_rfl) ((eq_verf _ _ ha hb).iface Tryz.underlying20 (by kernel_rfl)) ?_
    refine ItmP.cons (.iface 25 (.int .u64 a.cookie)) (.iface 25 (.int .u64 b.cookie)) (fun w => by kernel_rfl) (fun w => by kernel_rfl) ((EqP.int _ _ Tryz.underlying25).iface Tryz.underlying20 (by kernel_rfl)) ?_
    exact ItmP.nil
  · obtain ⟨a0, a1, a2, a3, a4, a5, a6, a7, a8, a9, a10, a11, a12, a13, a14, a15, a16, a17, a18⟩ := a; obtain ⟨b0, b1, b2, b3, b4, b5, b6, b7, b8, b9, b10, b11, b12, b13, b14, b15, b16, b17, b18⟩ := b
    simp
end Go.Proofs.YtgmhapjidbdhnaaGreat

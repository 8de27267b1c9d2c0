/- Each kind of part reads its field, and writes it. Printed by gen_arparts.py. -/
import Derived.Test.YtgmhapjidbdhnaaGreatJP
import Derived.Maps.OwnSet
import Derived.Lib.AppendZeros
set_option linter.unusedVariables false
set_option linter.unusedSimpArgs false
namespace Go.Proofs.YtgmhapjidbdhnaaGreat
open Go.RowKit
/-- The kinds of parts that procedures are asked with. -/
inductive Pk where
  | h | name | h2 | name2 | target | data | set | offset | cookie | count | bits | max | kind | verf | guard | stable | how | howVerf | howSet | kindSet | kindOff
/-- Each procedure's parts. -/
def rowsOf : Nat → List Pk
  | 0 => []
  | 1 => [.h]
  | 2 => [.h, .set, .guard]
  | 3 => [.h, .name]
  | 4 => [.h, .bits]
  | 5 => [.h]
  | 6 => [.h, .offset, .count]
  | 7 => [.h, .offset, .count, .stable, .data]
  | 8 => [.h, .name, .how, .howVerf, .howSet]
  | 9 => [.h, .name, .set]
  | 10 => [.h, .name, .set, .target]
  | 11 => [.h, .name, .kind, .kindSet, .kindOff]
  | 12 => [.h, .name]
  | 13 => [.h, .name]
  | 14 => [.h, .name, .h2, .name2]
  | 15 => [.h, .h2, .name2]
  | 16 => [.h, .cookie, .verf, .count]
  | 17 => [.h, .cookie, .verf, .count, .max]
  | 18 => [.h]
  | 19 => [.h]
  | 20 => [.h]
  | 21 => [.h, .offset, .count]
  | _ => []
/-- A slice of one part, from lo on. -/
def One1 (w : World) (lo : Nat) (lv fv : Value) : Prop := PL w lv [fv] ∧ (∃ A n c, lv = .slice A n c) ∧ ∀ g, Value.inBlock lv = some g → lo ≤ g ∧ g < w.heap.size
/-- A slice of numbers, from lo on. -/
def Nums (w : World) (lo : Nat) (lv : Value) (ns : List Nat) : Prop := ∃ b c, lv = .slice (some ⟨b, 0, none⟩) ns.length c ∧ lo ≤ b ∧ b < w.heap.size ∧ ∀ j, j < ns.length → w.cell? ⟨b, j, none⟩ = some (.int .u32 ((ns.getD j 0 : Nat) : Int))
/-- What a part's function value bears. -/
def PkShape (w : World) (lo K : Nat) (fv : Value) : Pk → Prop
  | .h => BytesShape 64 w lo fv K 1
  | .name => TextShape 1024 w lo fv K 2
  | .h2 => BytesShape 64 w lo fv K 3
  | .name2 => TextShape 1024 w lo fv K 4
  | .set => SetShape w lo fv K 5
  | .guard => ∃ lv gv, OptionShape w lo fv K 19 lv ∧ One1 w lo lv gv ∧ TimeShape w lo gv K 20
  | .bits => NumberShape w lo fv K 22
  | .offset => LongShape w lo fv K 23
  | .count => NumberShape w lo fv K 24
  | .max => NumberShape w lo fv K 25
  | .stable => SmallShape 2 w lo fv K 26
  | .data => BytesShape 32768 w lo fv K 27
  | .target => TextShape 1024 w lo fv K 28
  | .how => SmallShape 2 w lo fv K 29
  | .kind => NumberShape w lo fv K 30
  | .verf => VerfShape w lo fv K 31
  | .cookie => LongShape w lo fv K 39
  | .howVerf => ∃ lv gv A0, IfShape w lo fv (.func (.func 49) #[] #[.pointer (some ⟨A0, 0, none⟩)]) lv ∧ Bx w lo A0 (.pointer (some ⟨K, 0, none⟩)) ∧ One1 w lo lv gv ∧ VerfShape w lo gv K 31
  | .howSet => ∃ lv gv A0, IfShape w lo fv (.func (.func 50) #[] #[.pointer (some ⟨A0, 0, none⟩)]) lv ∧ Bx w lo A0 (.pointer (some ⟨K, 0, none⟩)) ∧ One1 w lo lv gv ∧ SetShape w lo gv K 5
  | .kindSet => ∃ lv gv A0 L nv, IfShape w lo fv (.func (.func 44) #[] #[.pointer (some ⟨L, 0, none⟩), .pointer (some ⟨A0, 0, none⟩)]) lv ∧ Bx w lo A0 (.pointer (some ⟨K, 0, none⟩)) ∧ Bx w lo L nv ∧ Nums w lo nv [3, 4, 6, 7] ∧ One1 w lo lv gv ∧ SetShape w lo gv K 5
  | .kindOff => ∃ lv gv A0 L nv, IfShape w lo fv (.func (.func 44) #[] #[.pointer (some ⟨L, 0, none⟩), .pointer (some ⟨A0, 0, none⟩)]) lv ∧ Bx w lo A0 (.pointer (some ⟨K, 0, none⟩)) ∧ Bx w lo L nv ∧ Nums w lo nv [3, 4] ∧ One1 w lo lv gv ∧ LongShape w lo gv K 23
/-- How an entry of the map of parts reads: as itself. -/
def heldR (v : Value) : Option (DataW Value × List MemPlace) := some (.held v, [])
def kP (p : Nat) : Lit := .int .u32 (p : Int)
theorem procKeyed : Go.Maps.Keyed Tryz.prog 23 := Go.Maps.int_keyed Tryz.underlying23
/-- The map of parts. -/
def MapAt (w : World) (M n : Nat) (D : DataW Value) : Prop := w.ownsMap Tryz.prog 23 heldR M n D
theorem MapAt.below {w w' : World} {M n : Nat} {D : DataW Value} (h : MapAt w M n D) (hb : Below w.heap.size w w') : MapAt w' M n D := World.ownsMap.kept h (grown_of_below hb none) (by simp)
theorem keyP (p : Nat) (hp : p < 4294967296) : keyOf Tryz.prog 23 (.int .u32 (p : Int)) = some (kP p) := by
  have hw : (Lit.int .u32 (p : Int)).wf = true := by
    simp [Lit.wf, IntKind.min, IntKind.max, IntKind.bits, IntKind.signed]; omega
  simp [keyOf, mapKey, Tryz.underlying23, kP, hw]
theorem wpList_insert_at {w : World} {ops : Array Oper} {rest : List Oper} {o : Oper} {a : Act} {Q : Exit → Act → World → Prop} {M n : Nat} {D : DataW Value} {v : Value}
    (hg : o.guard = none) (m x : Operand) (p : Nat) (hp : p < 100) (hop : o.op = Op.insert 64 m (.const (.int .u32 (p : Int))) x) (hm : a.eval m = .map (some M)) (hown : MapAt w M n D) (hn : n ≤ 1000) (hv : a.eval x = v)
    (hK : ∀ w', MapAt w' M (n + 1) (D.put (kP p) (.held v)) → Only (· = M) w w' → wpList Tryz.prog ops Q rest (a.put o.dst undef) w') :
    wpList Tryz.prog ops Q (o :: rest) a w := by
  refine wpList_plain hg fun K' hK' => ?_
  obtain ⟨w', hrun, r1, r2⟩ := World.ownsMap.update hown procKeyed Tryz.underlying64 (by unfold maxLen; omega) (key := .int .u32 (p : Int)) (val := v) (kl := kP p) (d := .held v) (ps := []) (keyP p (by omega)) rfl
  have e : a.eval (.const (.int .u32 (p : Int))) = .int .u32 (p : Int) := rfl
  unfold Oper.wp
  simp [execOp, hop, hm, hv, e, hrun, Result.andThen]
  exact hK' _ _ (hK w' r1 ((Only.refl _ _).grown r2 (fun i _ e => by injection e)))
theorem OwnL.new' {w : World} {l : List Value} {t : TypeId} {b : Nat} (h : b = w.heap.size) : OwnL (w.alloc (.cells l.toArray t)) b l := by rw [h]; exact OwnL.new
theorem PL.of_own {w : World} {b : Nat} {l : List Value} (h : OwnL w b l) (hl : l.length ≤ 1000) (c : Nat) : PL w (.slice (some ⟨b, 0, none⟩) l.length c) l :=
  .inr ⟨b, 0, c, rfl, hl, h.1, fun j hj => by rw [Nat.zero_add, h.2.1 j, List.getElem?_eq_getElem hj]⟩
theorem OwnL.news {w : World} {b : Nat} {l : List Value} (h : OwnL w b l) : ∀ j v, l[j]? = some v → w.cell? ((⟨b, 0, none⟩ : Addr).add j) = some v := fun j v hj => by
  rw [Addr.add_lit, Nat.zero_add, h.2.1 j, hj]
theorem info_part : (Tryz.prog.info? 87).map (fun i => (i.zero.isSome, i.size, i.bytes)) = some (true, 1, 8) := by kernel_rfl
/-- Adding a part to a slice of parts that is full: a new slice. -/
theorem wpList_append_part {w : World} {ops : Array Oper} {rest : List Oper} {o : Oper} {a : Act} {Q : Exit → Act → World → Prop} {b b2 n : Nat} {olds news : List Value} (hgd : o.guard = none) (s x : Operand)
    (ho : o.op = .call { callee := .builtin .append, args := #[s, x], argTypes := #[62, 62] })
    (hs : a.eval s = .slice (some ⟨b, 0, none⟩) olds.length olds.length) (hx : a.eval x = .slice (some ⟨b2, 0, none⟩) news.length n) (h1 : OwnL w b olds) (h2 : OwnL w b2 news) (hn : 0 < news.length) (hl : olds.length + news.length ≤ 1000)
    (h : ∀ c w', Below w.heap.size w w' → w.heap.size < w'.heap.size → PL w' (.slice (some ⟨w.heap.size, 0, none⟩) (olds ++ news).length c) (olds ++ news) → wpList Tryz.prog ops Q rest (a.put o.dst (.slice (some ⟨w.heap.size, 0, none⟩) (olds ++ news).length c)) w') : wpList Tryz.prog ops Q (o :: rest) a w := by
  have hi := info_part
  obtain ⟨i0, hi, hz⟩ : ∃ i0, Tryz.prog.info? 87 = some i0 ∧ (i0.zero.isSome, i0.size, i0.bytes) = (true, 1, 8) := by
    cases he : Tryz.prog.info? 87 with
    | none => rw [he] at hi; cases hi
    | some i0 => rw [he] at hi; exact ⟨i0, rfl, by simpa using hi⟩
  simp only [Prod.mk.injEq] at hz
  obtain ⟨z, hz0⟩ := Option.isSome_iff_exists.1 hz.1
  have hr := run_append_grow (P := Tryz.prog) w 62 o.type 87 i0 z Tryz.underlying62 hi hz0 ⟨b, 0, none⟩ olds.length olds.length olds (by rw [hz.2.1]; omega) h1.news ⟨b2, 0, none⟩ news.length n news (by rw [hz.2.1]; omega) h2.news (by omega) (by omega) (growslice_fits (by omega) (by rw [hz.2.2]; omega))
  refine Lib.wpList_append_run w hgd s x _ _ ho _ _ hs hx _ _ hr ?_
  rw [← List.length_append]
  refine h _ _ (by (with_reducible (repeat' (first | exact Below.refl _ _ | assumption | apply bl_alloc | apply bl_drewN | apply bl_drew | refine bl_set ?_ ?_ _))) <;> (first | done | (simp; done) | (simp; omega) | omega)) (by simp) (.inr ⟨w.heap.size, 0, _, rfl, by rw [List.length_append]; exact hl, by simp, fun j hj => ?_⟩)
  rw [List.length_append] at hj
  rw [Nat.zero_add]
  have hh : (w.drew.alloc (.cells (olds.toArray ++ news.toArray ++ Builtin.zeroCells z.cells (grownCap w (olds ++ news).length olds.length 87 - (olds ++ news).length)) 87)).heap[w.heap.size]? = _ := heap_alloc_new w.drew _
  unfold World.cell?
  simp only [hh]
  have e : (olds.toArray ++ news.toArray ++ Builtin.zeroCells z.cells (grownCap w (olds ++ news).length olds.length 87 - (olds ++ news).length))[j]? = some (olds ++ news)[j] := by
    rw [Array.getElem?_append_left (by simp; omega)]
    simp [hj]
  exact e
end Go.Proofs.YtgmhapjidbdhnaaGreat
namespace Go.Proofs.YtgmhapjidbdhnaaGreat
open Go.RowKit
/-- Cells, some of them replaced. -/
def inL (l : List Value) : Nat → List Value → List Value
  | _, [] => l
  | o, v :: r => inL (l.set o v) (o + 1) r
theorem OwnL.setCells {b : Nat} : ∀ (vs : List Value) (o : Nat) (w : World) (l : List Value), OwnL w b l → o + vs.length ≤ l.length → OwnL (w.setCells b o vs) b (inL l o vs)
  | [], _, _, _, h, _ => h
  | v :: r, o, w, l, h, hl => by
    rw [List.length_cons] at hl
    exact OwnL.setCells r (o + 1) _ _ (h.set_ (by omega)) (by rw [List.length_set]; omega)
theorem OwnL.rangeTake {w : World} {b o : Nat} {l cs : List Value} (h : OwnL w b l) (he : (l.drop o).take cs.length = cs) : w.rangeAt b o cs := fun j v hv => by
  have hj := (List.getElem?_eq_some_iff.1 hv).1
  rw [← he, List.getElem?_take_of_lt hj, List.getElem?_drop] at hv
  rw [h.2.1, hv]
theorem OwnL.thereTake {w : World} {b o n : Nat} {l : List Value} (h : OwnL w b l) (he : o + n ≤ l.length) : w.there b o n := fun j hj => by
  refine ⟨?_, h.2.2 _⟩
  rw [h.2.1, List.getElem?_eq_getElem (by omega)]; rfl
theorem OwnL.cellAt {w : World} {b o : Nat} {l : List Value} (h : OwnL w b l) (ho : o < l.length) : ∃ u, w.cell? ⟨b, o, none⟩ = some u := ⟨l[o], by rw [h.2.1, List.getElem?_eq_getElem ho]⟩
/-- The numbers are numbers. -/
structure ArWf (a : Ar) : Prop where
  proc : a.proc < 4294967296
  set : a.set.wf
  guard : a.guard.wf
  bits : a.bits < 4294967296
  offset : a.offset < 18446744073709551616
  count : a.count < 4294967296
  max : a.max < 4294967296
  stable : a.stable < 4294967296
  how : a.how < 4294967296
  kind : a.kind < 4294967296
  verf : a.verf.length = 8
  cookie : a.cookie < 18446744073709551616
theorem z0 : St.zero.wf := ⟨by decide, by decide, by decide, by decide, by decide, ⟨by decide, by decide⟩, by decide, ⟨by decide, by decide⟩⟩
theorem z1 : (⟨0, 0⟩ : Tm).wf := ⟨by decide, by decide⟩
theorem z2 : (0 : Nat) < 18446744073709551616 := by decide
theorem z3 : (0 : Nat) < 4294967296 := by decide
theorem ArWf.zero {p : Nat} (hp : p < 4294967296) : ArWf (Ar.zero p) := ⟨hp, z0, z1, z3, z2, z3, z3, z3, z3, z3, rfl, z2⟩
/-- The cells; v1, v2, v3: where bytes lie. -/
def arC (v1 v2 v3 : Value) (a : Ar) : List Value :=
  [.int .u32 a.proc, v1, strV a.name, v2, strV a.name2] ++ encSet a.set ++ [.bool a.hasGuard] ++ encT a.guard ++
  [.int .u32 a.bits, .int .u64 a.offset, .int .u32 a.count, .int .u32 a.max, .int .u32 a.stable, v3, strV a.target, .int .u32 a.how, .int .u32 a.kind] ++ encV a.verf ++ [.int .u64 a.cookie]
theorem arC_len {v1 v2 v3 : Value} {a : Ar} (h : a.verf.length = 8) : (arC v1 v2 v3 a).length = 40 := by
  simp only [arC, List.length_append, encV_len, h]
  rfl
theorem len8 {l : List UInt8} (h : l.length = 8) : ∃ a0 a1 a2 a3 a4 a5 a6 a7, l = [a0, a1, a2, a3, a4, a5, a6, a7] := by
  match l, h with
  | [a0, a1, a2, a3, a4, a5, a6, a7], _ => exact ⟨a0, a1, a2, a3, a4, a5, a6, a7, rfl⟩
/-- What is asked lies at K; its bytes lie in blocks of S. -/
structure ArAt (S : Nat → Prop) (K : Nat) (w : World) (s : Ar) (v1 v2 v3 : Value) : Prop where
  own : OwnL w K (arC v1 v2 v3 s)
  h1 : Rd w v1 s.h
  h2 : Rd w v2 s.h2
  h3 : Rd w v3 s.data
  in1 : ∀ g, Value.inBlock v1 = some g → S g
  in2 : ∀ g, Value.inBlock v2 = some g → S g
  in3 : ∀ g, Value.inBlock v3 = some g → S g
def ArRep (S : Nat → Prop) (K : Nat) (w : World) (s : Ar) : Prop := ArWf s ∧ ∃ v1 v2 v3, ArAt S K w s v1 v2 v3
section
variable {S P : Nat → Prop} {K R : Nat} {w w' : World} {s s' : Ar} {v1 v2 v3 : Value}
theorem ArAt.only (h : ArAt S K w s v1 v2 v3) {U : Nat → Prop} (ho : Only U w w') (hK : ¬ U K) (hS : ∀ g, S g → ¬ U g) : ArAt S K w' s v1 v2 v3 :=
  ⟨h.own.only ho hK, h.h1.only ho fun g hg => hS g (h.in1 g hg), h.h2.only ho fun g hg => hS g (h.in2 g hg), h.h3.only ho fun g hg => hS g (h.in3 g hg), h.in1, h.in2, h.in3⟩
theorem ArRep.only (h : ArRep S K w s) {U : Nat → Prop} (ho : Only U w w') (hK : ¬ U K) (hS : ∀ g, S g → ¬ U g) : ArRep S K w' s := by
  obtain ⟨hw, v1, v2, v3, h⟩ := h
  exact ⟨hw, v1, v2, v3, h.only ho hK hS⟩
theorem ArRep.lt (h : ArRep S K w s) : K < w.heap.size := by
  obtain ⟨_, v1, v2, v3, h⟩ := h
  exact h.own.1
/-- A cell stored: another thing asked. -/
theorem ArAt.put (h : ArAt S K w s v1 v2 v3) (hSK : ¬ S K) {o : Nat} {u : Value} (ho : o < (arC v1 v2 v3 s).length) (he : (arC v1 v2 v3 s).set o u = arC v1 v2 v3 s') (e1 : s'.h = s.h) (e2 : s'.h2 = s.h2) (e3 : s'.data = s.data) : ArAt S K (w.setCell ⟨K, o, none⟩ u) s' v1 v2 v3 := by
  have hO : Only (· = K) w (w.setCell ⟨K, o, none⟩ u) := Only.setCell (Only.refl (· = K) w) (.inr rfl) u
  refine ⟨by rw [← he]; exact h.own.put o u ho, ?_, ?_, ?_, h.in1, h.in2, h.in3⟩
  · rw [e1]; exact h.h1.only hO fun g hg e => hSK (by rw [← e]; exact h.in1 g hg)
  · rw [e2]; exact h.h2.only hO fun g hg e => hSK (by rw [← e]; exact h.in2 g hg)
  · rw [e3]; exact h.h3.only hO fun g hg e => hSK (by rw [← e]; exact h.in3 g hg)
theorem ArAt.puts (h : ArAt S K w s v1 v2 v3) (hSK : ¬ S K) {o : Nat} {us : List Value} (ho : o + us.length ≤ (arC v1 v2 v3 s).length) (he : inL (arC v1 v2 v3 s) o us = arC v1 v2 v3 s') (e1 : s'.h = s.h) (e2 : s'.h2 = s.h2) (e3 : s'.data = s.data) : ArAt S K (w.setCells K o us) s' v1 v2 v3 := by
  have hO : Only (· = K) w (w.setCells K o us) := only_setCells
  refine ⟨by rw [← he]; exact h.own.setCells us o w _ ho, ?_, ?_, ?_, h.in1, h.in2, h.in3⟩
  · rw [e1]; exact h.h1.only hO fun g hg e => hSK (by rw [← e]; exact h.in1 g hg)
  · rw [e2]; exact h.h2.only hO fun g hg e => hSK (by rw [← e]; exact h.in2 g hg)
  · rw [e3]; exact h.h3.only hO fun g hg e => hSK (by rw [← e]; exact h.in3 g hg)
theorem ownB_in {base g : Nat} {u : Value} {ys : List UInt8} (h : OwnB w base u ys) (hg : Value.inBlock u = some g) : base ≤ g := by
  unfold OwnB at h
  rcases h.2 with ⟨rfl, _⟩ | ⟨g', cap, cur, rfl, hb, _⟩
  · cases hg
  · injection hg with hg; subst hg; exact hb
/-- Only the block of what is asked and the road change. -/
theorem ArRep.repR (hS : ∀ g, S g → g ≠ R) (hKR : K ≠ R) : RepR (ArRep S K) R (fun i => i = R ∨ i = K) where
  inR := .inl rfl
  frR w w' s h ho := h.only ho hKR hS
  old w s h i hi hne := by
    rcases hi with hi | rfl
    · exact absurd hi hne
    · exact h.lt
theorem ArRep.repW {Q : Nat → Prop} {w0 : World} (hS : ∀ g, S g → ¬ Q g ∧ g < w0.heap.size) (hK : ¬ Q K ∧ K < w0.heap.size) (hR : Q R) : RepW (ArRep S K) R Q w0 where
  inR := hR
  frW w w' s h ho := h.only ho (fun h => h.elim hK.1 fun h => absurd hK.2 (Nat.not_lt_of_le h)) (fun g hg h => h.elim (hS g hg).1 fun h => absurd (hS g hg).2 (Nat.not_lt_of_le h))
/-- A block that no bytes lie in, which is not the road. -/
structure OkK (S : Nat → Prop) (K R : Nat) : Prop where
  ne : K ≠ R
  nS : ¬ S K
theorem ArRep.has1 (h : ArRep S K w s) {o : Nat} (ho : o < 40) : K < w.heap.size ∧ (∃ u, w.cell? ⟨K, o, none⟩ = some u) ∧ w.frozen? ⟨K, o, none⟩ = false := by
  obtain ⟨hw, v1, v2, v3, h⟩ := h
  exact ⟨h.own.1, h.own.cellAt (by rw [arC_len hw.verf]; exact ho), h.own.2.2 _⟩
theorem ArRep.hasN (h : ArRep S K w s) {o n : Nat} (ho : o + n ≤ 40) : K < w.heap.size ∧ w.there K o n := by
  obtain ⟨hw, v1, v2, v3, h⟩ := h
  exact ⟨h.own.1, h.own.thereTake (by rw [arC_len hw.verf]; exact ho)⟩
theorem fS_name (hk : OkK S K R) : FldS (ArRep S K) R (fun i => i = R ∨ i = K) K 2 eTxt (fun v m => {m with name := v}) where
  inP := .inr rfl
  ne := hk.ne
  has w s h := h.has1 (by decide)
  put w s base y u h he hb := by
    obtain ⟨hw, v1, v2, v3, h⟩ := h
    obtain rfl := he
    exact ⟨⟨hw.proc, hw.set, hw.guard, hw.bits, hw.offset, hw.count, hw.max, hw.stable, hw.how, hw.kind, hw.verf, hw.cookie⟩, v1, v2, v3, h.put hk.nS (by rw [arC_len hw.verf]; decide) (rfl) rfl rfl rfl⟩
theorem fG_name : FldG (ArRep S K) R K 2 dTxt (Ar.name) where
  has w s h := by
    obtain ⟨hw, v1, v2, v3, h⟩ := h
    exact ⟨_, (h.own.2.1 2).trans (rfl), rfl⟩
  lt w s h := h.lt
theorem fS_name2 (hk : OkK S K R) : FldS (ArRep S K) R (fun i => i = R ∨ i = K) K 4 eTxt (fun v m => {m with name2 := v}) where
  inP := .inr rfl
  ne := hk.ne
  has w s h := h.has1 (by decide)
  put w s base y u h he hb := by
    obtain ⟨hw, v1, v2, v3, h⟩ := h
    obtain rfl := he
    exact ⟨⟨hw.proc, hw.set, hw.guard, hw.bits, hw.offset, hw.count, hw.max, hw.stable, hw.how, hw.kind, hw.verf, hw.cookie⟩, v1, v2, v3, h.put hk.nS (by rw [arC_len hw.verf]; decide) (rfl) rfl rfl rfl⟩
theorem fG_name2 : FldG (ArRep S K) R K 4 dTxt (Ar.name2) where
  has w s h := by
    obtain ⟨hw, v1, v2, v3, h⟩ := h
    exact ⟨_, (h.own.2.1 4).trans (rfl), rfl⟩
  lt w s h := h.lt
theorem fS_hasGuard (hk : OkK S K R) : FldS (ArRep S K) R (fun i => i = R ∨ i = K) K 19 eBool (fun v m => {m with hasGuard := v}) where
  inP := .inr rfl
  ne := hk.ne
  has w s h := h.has1 (by decide)
  put w s base y u h he hb := by
    obtain ⟨hw, v1, v2, v3, h⟩ := h
    obtain rfl := he
    exact ⟨⟨hw.proc, hw.set, hw.guard, hw.bits, hw.offset, hw.count, hw.max, hw.stable, hw.how, hw.kind, hw.verf, hw.cookie⟩, v1, v2, v3, h.put hk.nS (by rw [arC_len hw.verf]; decide) (rfl) rfl rfl rfl⟩
theorem fG_hasGuard : FldG (ArRep S K) R K 19 dBool (Ar.hasGuard) where
  has w s h := by
    obtain ⟨hw, v1, v2, v3, h⟩ := h
    exact ⟨_, (h.own.2.1 19).trans (rfl), rfl⟩
  lt w s h := h.lt
theorem fS_bits (hk : OkK S K R) : FldS (ArRep S K) R (fun i => i = R ∨ i = K) K 22 eU32 (fun v m => {m with bits := v}) where
  inP := .inr rfl
  ne := hk.ne
  has w s h := h.has1 (by decide)
  put w s base y u h he hb := by
    obtain ⟨hw, v1, v2, v3, h⟩ := h
    obtain ⟨rfl, hy⟩ := he
    exact ⟨⟨hw.proc, hw.set, hw.guard, hy, hw.offset, hw.count, hw.max, hw.stable, hw.how, hw.kind, hw.verf, hw.cookie⟩, v1, v2, v3, h.put hk.nS (by rw [arC_len hw.verf]; decide) (rfl) rfl rfl rfl⟩
theorem fG_bits : FldG (ArRep S K) R K 22 dU32 (Ar.bits) where
  has w s h := by
    obtain ⟨hw, v1, v2, v3, h⟩ := h
    exact ⟨_, (h.own.2.1 22).trans (rfl), ⟨rfl, hw.bits⟩⟩
  lt w s h := h.lt
theorem fS_offset (hk : OkK S K R) : FldS (ArRep S K) R (fun i => i = R ∨ i = K) K 23 eU64 (fun v m => {m with offset := v}) where
  inP := .inr rfl
  ne := hk.ne
  has w s h := h.has1 (by decide)
  put w s base y u h he hb := by
    obtain ⟨hw, v1, v2, v3, h⟩ := h
    obtain ⟨rfl, hy⟩ := he
    exact ⟨⟨hw.proc, hw.set, hw.guard, hw.bits, hy, hw.count, hw.max, hw.stable, hw.how, hw.kind, hw.verf, hw.cookie⟩, v1, v2, v3, h.put hk.nS (by rw [arC_len hw.verf]; decide) (rfl) rfl rfl rfl⟩
theorem fG_offset : FldG (ArRep S K) R K 23 dU64 (Ar.offset) where
  has w s h := by
    obtain ⟨hw, v1, v2, v3, h⟩ := h
    exact ⟨_, (h.own.2.1 23).trans (rfl), ⟨rfl, hw.offset⟩⟩
  lt w s h := h.lt
theorem fS_count (hk : OkK S K R) : FldS (ArRep S K) R (fun i => i = R ∨ i = K) K 24 eU32 (fun v m => {m with count := v}) where
  inP := .inr rfl
  ne := hk.ne
  has w s h := h.has1 (by decide)
  put w s base y u h he hb := by
    obtain ⟨hw, v1, v2, v3, h⟩ := h
    obtain ⟨rfl, hy⟩ := he
    exact ⟨⟨hw.proc, hw.set, hw.guard, hw.bits, hw.offset, hy, hw.max, hw.stable, hw.how, hw.kind, hw.verf, hw.cookie⟩, v1, v2, v3, h.put hk.nS (by rw [arC_len hw.verf]; decide) (rfl) rfl rfl rfl⟩
theorem fG_count : FldG (ArRep S K) R K 24 dU32 (Ar.count) where
  has w s h := by
    obtain ⟨hw, v1, v2, v3, h⟩ := h
    exact ⟨_, (h.own.2.1 24).trans (rfl), ⟨rfl, hw.count⟩⟩
  lt w s h := h.lt
theorem fS_max (hk : OkK S K R) : FldS (ArRep S K) R (fun i => i = R ∨ i = K) K 25 eU32 (fun v m => {m with max := v}) where
  inP := .inr rfl
  ne := hk.ne
  has w s h := h.has1 (by decide)
  put w s base y u h he hb := by
    obtain ⟨hw, v1, v2, v3, h⟩ := h
    obtain ⟨rfl, hy⟩ := he
    exact ⟨⟨hw.proc, hw.set, hw.guard, hw.bits, hw.offset, hw.count, hy, hw.stable, hw.how, hw.kind, hw.verf, hw.cookie⟩, v1, v2, v3, h.put hk.nS (by rw [arC_len hw.verf]; decide) (rfl) rfl rfl rfl⟩
theorem fG_max : FldG (ArRep S K) R K 25 dU32 (Ar.max) where
  has w s h := by
    obtain ⟨hw, v1, v2, v3, h⟩ := h
    exact ⟨_, (h.own.2.1 25).trans (rfl), ⟨rfl, hw.max⟩⟩
  lt w s h := h.lt
theorem fS_stable (hk : OkK S K R) : FldS (ArRep S K) R (fun i => i = R ∨ i = K) K 26 eU32 (fun v m => {m with stable := v}) where
  inP := .inr rfl
  ne := hk.ne
  has w s h := h.has1 (by decide)
  put w s base y u h he hb := by
    obtain ⟨hw, v1, v2, v3, h⟩ := h
    obtain ⟨rfl, hy⟩ := he
    exact ⟨⟨hw.proc, hw.set, hw.guard, hw.bits, hw.offset, hw.count, hw.max, hy, hw.how, hw.kind, hw.verf, hw.cookie⟩, v1, v2, v3, h.put hk.nS (by rw [arC_len hw.verf]; decide) (rfl) rfl rfl rfl⟩
theorem fG_stable : FldG (ArRep S K) R K 26 dU32 (Ar.stable) where
  has w s h := by
    obtain ⟨hw, v1, v2, v3, h⟩ := h
    exact ⟨_, (h.own.2.1 26).trans (rfl), ⟨rfl, hw.stable⟩⟩
  lt w s h := h.lt
theorem fS_target (hk : OkK S K R) : FldS (ArRep S K) R (fun i => i = R ∨ i = K) K 28 eTxt (fun v m => {m with target := v}) where
  inP := .inr rfl
  ne := hk.ne
  has w s h := h.has1 (by decide)
  put w s base y u h he hb := by
    obtain ⟨hw, v1, v2, v3, h⟩ := h
    obtain rfl := he
    exact ⟨⟨hw.proc, hw.set, hw.guard, hw.bits, hw.offset, hw.count, hw.max, hw.stable, hw.how, hw.kind, hw.verf, hw.cookie⟩, v1, v2, v3, h.put hk.nS (by rw [arC_len hw.verf]; decide) (rfl) rfl rfl rfl⟩
theorem fG_target : FldG (ArRep S K) R K 28 dTxt (Ar.target) where
  has w s h := by
    obtain ⟨hw, v1, v2, v3, h⟩ := h
    exact ⟨_, (h.own.2.1 28).trans (rfl), rfl⟩
  lt w s h := h.lt
theorem fS_how (hk : OkK S K R) : FldS (ArRep S K) R (fun i => i = R ∨ i = K) K 29 eU32 (fun v m => {m with how := v}) where
  inP := .inr rfl
  ne := hk.ne
  has w s h := h.has1 (by decide)
  put w s base y u h he hb := by
    obtain ⟨hw, v1, v2, v3, h⟩ := h
    obtain ⟨rfl, hy⟩ := he
    exact ⟨⟨hw.proc, hw.set, hw.guard, hw.bits, hw.offset, hw.count, hw.max, hw.stable, hy, hw.kind, hw.verf, hw.cookie⟩, v1, v2, v3, h.put hk.nS (by rw [arC_len hw.verf]; decide) (rfl) rfl rfl rfl⟩
theorem fG_how : FldG (ArRep S K) R K 29 dU32 (Ar.how) where
  has w s h := by
    obtain ⟨hw, v1, v2, v3, h⟩ := h
    exact ⟨_, (h.own.2.1 29).trans (rfl), ⟨rfl, hw.how⟩⟩
  lt w s h := h.lt
theorem fS_kind (hk : OkK S K R) : FldS (ArRep S K) R (fun i => i = R ∨ i = K) K 30 eU32 (fun v m => {m with kind := v}) where
  inP := .inr rfl
  ne := hk.ne
  has w s h := h.has1 (by decide)
  put w s base y u h he hb := by
    obtain ⟨hw, v1, v2, v3, h⟩ := h
    obtain ⟨rfl, hy⟩ := he
    exact ⟨⟨hw.proc, hw.set, hw.guard, hw.bits, hw.offset, hw.count, hw.max, hw.stable, hw.how, hy, hw.verf, hw.cookie⟩, v1, v2, v3, h.put hk.nS (by rw [arC_len hw.verf]; decide) (rfl) rfl rfl rfl⟩
theorem fG_kind : FldG (ArRep S K) R K 30 dU32 (Ar.kind) where
  has w s h := by
    obtain ⟨hw, v1, v2, v3, h⟩ := h
    exact ⟨_, (h.own.2.1 30).trans (rfl), ⟨rfl, hw.kind⟩⟩
  lt w s h := h.lt
theorem fS_cookie (hk : OkK S K R) : FldS (ArRep S K) R (fun i => i = R ∨ i = K) K 39 eU64 (fun v m => {m with cookie := v}) where
  inP := .inr rfl
  ne := hk.ne
  has w s h := h.has1 (by decide)
  put w s base y u h he hb := by
    obtain ⟨hw, v1, v2, v3, h⟩ := h
    obtain ⟨rfl, hy⟩ := he
    exact ⟨⟨hw.proc, hw.set, hw.guard, hw.bits, hw.offset, hw.count, hw.max, hw.stable, hw.how, hw.kind, hw.verf, hy⟩, v1, v2, v3, h.put hk.nS (by rw [arC_len hw.verf]; decide) (by
      obtain ⟨a0, a1, a2, a3, a4, a5, a6, a7, hv⟩ := len8 hw.verf
      simp only [arC, hv]
      rfl) rfl rfl rfl⟩
theorem fG_cookie : FldG (ArRep S K) R K 39 dU64 (Ar.cookie) where
  has w s h := by
    obtain ⟨hw, v1, v2, v3, h⟩ := h
    exact ⟨_, (h.own.2.1 39).trans (by
    obtain ⟨a0, a1, a2, a3, a4, a5, a6, a7, hv⟩ := len8 hw.verf
    simp only [arC, hv]
    rfl), ⟨rfl, hw.cookie⟩⟩
  lt w s h := h.lt
theorem fS_h (hk : OkK S K R) (hnew : ∀ base g, (∀ i, (i = R ∨ i = K) → i < base) → base ≤ g → S g) : FldS (ArRep S K) R (fun i => i = R ∨ i = K) K 1 eByt (fun v m => {m with h := v}) where
  inP := .inr rfl
  ne := hk.ne
  has w s h := h.has1 (by decide)
  put w s base y u h he hb := by
    obtain ⟨hw, v1, v2, v3, h⟩ := h
    have he : OwnB w base u y := he
    have hO : Only (· = K) w (w.setCell ⟨K, 1, none⟩ u) := Only.setCell (Only.refl (· = K) w) (.inr rfl) u
    refine ⟨⟨hw.proc, hw.set, hw.guard, hw.bits, hw.offset, hw.count, hw.max, hw.stable, hw.how, hw.kind, hw.verf, hw.cookie⟩, u, v2, v3, h.own.put 1 u (by rw [arC_len hw.verf]; decide), (he.rd).only hO fun g hg e => absurd (hb K (.inr rfl)) (by rw [← e]; exact Nat.not_lt_of_le (ownB_in he hg)), h.h2.only hO fun g hg e => hk.nS (by rw [← e]; exact h.in2 g hg), h.h3.only hO fun g hg e => hk.nS (by rw [← e]; exact h.in3 g hg), fun g hg => hnew base g hb (ownB_in he hg), h.in2, h.in3⟩
theorem fG_h : FldG (ArRep S K) R K 1 dByt (Ar.h) where
  has w s h := by
    obtain ⟨hw, v1, v2, v3, h⟩ := h
    exact ⟨v1, h.own.2.1 1, h.h1⟩
  lt w s h := h.lt
theorem fS_h2 (hk : OkK S K R) (hnew : ∀ base g, (∀ i, (i = R ∨ i = K) → i < base) → base ≤ g → S g) : FldS (ArRep S K) R (fun i => i = R ∨ i = K) K 3 eByt (fun v m => {m with h2 := v}) where
  inP := .inr rfl
  ne := hk.ne
  has w s h := h.has1 (by decide)
  put w s base y u h he hb := by
    obtain ⟨hw, v1, v2, v3, h⟩ := h
    have he : OwnB w base u y := he
    have hO : Only (· = K) w (w.setCell ⟨K, 3, none⟩ u) := Only.setCell (Only.refl (· = K) w) (.inr rfl) u
    refine ⟨⟨hw.proc, hw.set, hw.guard, hw.bits, hw.offset, hw.count, hw.max, hw.stable, hw.how, hw.kind, hw.verf, hw.cookie⟩, v1, u, v3, h.own.put 3 u (by rw [arC_len hw.verf]; decide), h.h1.only hO fun g hg e => hk.nS (by rw [← e]; exact h.in1 g hg), (he.rd).only hO fun g hg e => absurd (hb K (.inr rfl)) (by rw [← e]; exact Nat.not_lt_of_le (ownB_in he hg)), h.h3.only hO fun g hg e => hk.nS (by rw [← e]; exact h.in3 g hg), h.in1, fun g hg => hnew base g hb (ownB_in he hg), h.in3⟩
theorem fG_h2 : FldG (ArRep S K) R K 3 dByt (Ar.h2) where
  has w s h := by
    obtain ⟨hw, v1, v2, v3, h⟩ := h
    exact ⟨v2, h.own.2.1 3, h.h2⟩
  lt w s h := h.lt
theorem fS_data (hk : OkK S K R) (hnew : ∀ base g, (∀ i, (i = R ∨ i = K) → i < base) → base ≤ g → S g) : FldS (ArRep S K) R (fun i => i = R ∨ i = K) K 27 eByt (fun v m => {m with data := v}) where
  inP := .inr rfl
  ne := hk.ne
  has w s h := h.has1 (by decide)
  put w s base y u h he hb := by
    obtain ⟨hw, v1, v2, v3, h⟩ := h
    have he : OwnB w base u y := he
    have hO : Only (· = K) w (w.setCell ⟨K, 27, none⟩ u) := Only.setCell (Only.refl (· = K) w) (.inr rfl) u
    refine ⟨⟨hw.proc, hw.set, hw.guard, hw.bits, hw.offset, hw.count, hw.max, hw.stable, hw.how, hw.kind, hw.verf, hw.cookie⟩, v1, v2, u, h.own.put 27 u (by rw [arC_len hw.verf]; decide), h.h1.only hO fun g hg e => hk.nS (by rw [← e]; exact h.in1 g hg), h.h2.only hO fun g hg e => hk.nS (by rw [← e]; exact h.in2 g hg), (he.rd).only hO fun g hg e => absurd (hb K (.inr rfl)) (by rw [← e]; exact Nat.not_lt_of_le (ownB_in he hg)), h.in1, h.in2, fun g hg => hnew base g hb (ownB_in he hg)⟩
theorem fG_data : FldG (ArRep S K) R K 27 dByt (Ar.data) where
  has w s h := by
    obtain ⟨hw, v1, v2, v3, h⟩ := h
    exact ⟨v3, h.own.2.1 27, h.h3⟩
  lt w s h := h.lt
theorem fS_set (hk : OkK S K R) : FldSM (ArRep S K) R (fun i => i = R ∨ i = K) K 5 14 encSet St.wf (fun v m => {m with set := v}) where
  inP := .inr rfl
  ne := hk.ne
  has w s h := h.hasN (by decide)
  put w s y h hy := by
    obtain ⟨hw, v1, v2, v3, h⟩ := h
    exact ⟨⟨hw.proc, hy, hw.guard, hw.bits, hw.offset, hw.count, hw.max, hw.stable, hw.how, hw.kind, hw.verf, hw.cookie⟩, v1, v2, v3, h.puts hk.nS (by rw [arC_len hw.verf]; exact (by decide : 5 + 14 ≤ 40)) (by simp only [arC, encSet, encT, List.cons_append, List.nil_append, List.append_assoc, inL, Nat.reduceAdd, List.set_cons_succ, List.set_cons_zero]) rfl rfl rfl⟩
theorem fG_set : FldGM (ArRep S K) K 5 encSet St.wf (Ar.set) where
  has w s h := by
    obtain ⟨hw, v1, v2, v3, h⟩ := h
    exact ⟨h.own.rangeTake (rfl), hw.set⟩
  lt w s h := h.lt
theorem fS_guard (hk : OkK S K R) : FldSM (ArRep S K) R (fun i => i = R ∨ i = K) K 20 2 encT Tm.wf (fun v m => {m with guard := v}) where
  inP := .inr rfl
  ne := hk.ne
  has w s h := h.hasN (by decide)
  put w s y h hy := by
    obtain ⟨hw, v1, v2, v3, h⟩ := h
    exact ⟨⟨hw.proc, hw.set, hy, hw.bits, hw.offset, hw.count, hw.max, hw.stable, hw.how, hw.kind, hw.verf, hw.cookie⟩, v1, v2, v3, h.puts hk.nS (by rw [arC_len hw.verf]; exact (by decide : 20 + 2 ≤ 40)) (by simp only [arC, encSet, encT, List.cons_append, List.nil_append, List.append_assoc, inL, Nat.reduceAdd, List.set_cons_succ, List.set_cons_zero]) rfl rfl rfl⟩
theorem fG_guard : FldGM (ArRep S K) K 20 encT Tm.wf (Ar.guard) where
  has w s h := by
    obtain ⟨hw, v1, v2, v3, h⟩ := h
    exact ⟨h.own.rangeTake (rfl), hw.guard⟩
  lt w s h := h.lt
theorem fS_verf (hk : OkK S K R) : FldSM (ArRep S K) R (fun i => i = R ∨ i = K) K 31 8 encV (fun x => x.length = 8) (fun v m => {m with verf := v}) where
  inP := .inr rfl
  ne := hk.ne
  has w s h := h.hasN (by decide)
  put w s y h hy := by
    obtain ⟨hw, v1, v2, v3, h⟩ := h
    exact ⟨⟨hw.proc, hw.set, hw.guard, hw.bits, hw.offset, hw.count, hw.max, hw.stable, hw.how, hw.kind, hy, hw.cookie⟩, v1, v2, v3, h.puts hk.nS (by rw [encV_len, hy, arC_len hw.verf]; decide) (by
      obtain ⟨a0, a1, a2, a3, a4, a5, a6, a7, hv⟩ := len8 hw.verf
      obtain ⟨b0, b1, b2, b3, b4, b5, b6, b7, rfl⟩ := len8 hy
      simp only [arC, hv]
      rfl) rfl rfl rfl⟩
theorem fG_verf : FldGM (ArRep S K) K 31 encV (fun x => x.length = 8) (Ar.verf) where
  has w s h := by
    obtain ⟨hw, v1, v2, v3, h⟩ := h
    exact ⟨h.own.rangeTake (by
      obtain ⟨a0, a1, a2, a3, a4, a5, a6, a7, hv⟩ := len8 hw.verf
      simp only [arC, hv]
      rfl), hw.verf⟩
  lt w s h := h.lt
end
end Go.Proofs.YtgmhapjidbdhnaaGreat
namespace Go.Proofs.YtgmhapjidbdhnaaGreat
open Go.RowKit
section
variable {S : Nat → Prop} {W : World → Prop} {K A0 L : Nat}
theorem beq_nat_int (x y : Nat) : ((x : Int) == (y : Int)) = (x == y) := by rw [Bool.eq_iff_iff]; simp; omega
set_option maxRecDepth 100000 in
set_option maxHeartbeats 2000000 in
theorem rows2_cond (hH : ∀ w, W w → w.cell? ⟨A0, 0, none⟩ = some (.pointer (some ⟨K, 0, none⟩))) : IsCond (ArRep S K) W (.func (.func 49) #[] #[.pointer (some ⟨A0, 0, none⟩)]) (fun a => a.how == 2) := by
  refine ⟨_, _, rfl, fun args w => by kernel_rfl, fun w s hw hRep => ?_⟩
  have g1 := hH w hw
  obtain ⟨u, g2, hu, _⟩ := (fG_how (R := 0)).has w s hRep
  subst hu
  have hq := beq_nat_int s.how 2
  clear hH hw hRep
  go_enter Tryz.func49, Tryz.ntmps49
  go_wp2
  go_ret
  exact ⟨congrArg (fun b => Ending.returned (.bool b)) hq, Below.refl _ _⟩
set_option maxRecDepth 100000 in
set_option maxHeartbeats 2000000 in
theorem rows3_cond (hH : ∀ w, W w → w.cell? ⟨A0, 0, none⟩ = some (.pointer (some ⟨K, 0, none⟩))) : IsCond (ArRep S K) W (.func (.func 50) #[] #[.pointer (some ⟨A0, 0, none⟩)]) (fun a => a.how != 2) := by
  refine ⟨_, _, rfl, fun args w => by kernel_rfl, fun w s hw hRep => ?_⟩
  have g1 := hH w hw
  obtain ⟨u, g2, hu, _⟩ := (fG_how (R := 0)).has w s hRep
  subst hu
  have hq := beq_nat_int s.how 2
  clear hH hw hRep
  go_enter Tryz.func50, Tryz.ntmps50
  go_wp2
  go_ret
  exact ⟨congrArg (fun b => Ending.returned (.bool (!b))) hq, Below.refl _ _⟩
set_option maxRecDepth 100000 in
set_option maxHeartbeats 2000000 in
theorem rows11_cond {ns : List Nat} {nv : Value} (hl : ns.length ≤ 1000) (hH : ∀ w, W w → w.cell? ⟨A0, 0, none⟩ = some (.pointer (some ⟨K, 0, none⟩)) ∧ w.cell? ⟨L, 0, none⟩ = some nv ∧ Nums w 0 nv ns) : IsCond (ArRep S K) W (.func (.func 44) #[] #[.pointer (some ⟨L, 0, none⟩), .pointer (some ⟨A0, 0, none⟩)]) (fun a => ns.contains a.kind) := by
  refine ⟨_, _, rfl, fun args w => by kernel_rfl, fun w s hw hRep => ?_⟩
  obtain ⟨g1, gL, b, c, rfl, _, hb, hc⟩ := hH w hw
  obtain ⟨u, g2, hu, _⟩ := (fG_kind (R := 0)).has w s hRep
  subst hu
  clear hH hw hRep
  have HL := Lib.hid hl
  obtain ⟨n, hn⟩ : ∃ n, ns.length = n := ⟨_, rfl⟩
  have hl9 : (n : Int) ≤ 1000 := by omega
  rw [hn] at hc gL
  have HN := Lib.hid hn; have HC := Lib.hid hc
  clear hn hc hl
  go_enter Tryz.func44, Tryz.ntmps44
  go_wp2
  go_loopw [7] (fun s7 wr => ∃ k : Nat, k ≤ n ∧ s7 = .int .i64 k ∧ (∀ j, j < k → ns.getD j 0 ≠ s.kind) ∧ w = wr) (fun s7 wr => n - (intOf s7).toNat)
  case atStart => exact ⟨0, Nat.zero_le _, rfl, fun j hj => absurd hj (Nat.not_lt_zero _), rfl⟩
  case round =>
    obtain ⟨k, hk, rfl, hI, rfl⟩ := hrel
    have HI := Lib.hid hI
    clear hI
    by_cases hlt : k < n
    · have hcell := HC.out k hlt
      have hkI : (k : Int) < (n : Int) := by omega
      by_cases he : ns.getD k 0 = s.kind
      · rw [he] at hcell
        have HE := Lib.hid he
        clear he
        go_wp2_with fail
        go_ret
        refine ⟨?_, Below.refl _ _⟩
        have hmem : s.kind ∈ ns := by
          rw [← HE.out, List.getD_eq_getElem?_getD, List.getElem?_eq_getElem (by rw [HN.out]; exact hlt)]
          exact List.getElem_mem _
        rw [show ns.contains s.kind = true from List.contains_iff_mem.2 hmem]
        rfl
      · have HE := Lib.hid he
        obtain ⟨x, hx⟩ : ∃ x, ns.getD k 0 = x := ⟨_, rfl⟩
        rw [hx] at hcell he
        have hnb : ((s.kind : Int) == (x : Int)) = false := by
          rw [beq_nat_int]; simp; omega
        clear he hx
        go_wp2_with fail
        go_roundw
        case rel =>
          have hall : ∀ j, j < k + 1 → ns.getD j 0 ≠ s.kind := fun j hj => by
            rcases Nat.lt_or_ge j k with h | h
            · exact HI.out j h
            · obtain rfl : j = k := Nat.le_antisymm (Nat.le_of_lt_succ hj) h
              exact HE.out
          exact ⟨k + 1, hlt, by go_num, hall, by trivial⟩
        case measure => simp [intOf]; omega
    · obtain rfl : k = n := by omega
      clear hlt hk
      go_wp2
      go_ret
      refine ⟨?_, Below.refl _ _⟩
      have hmem : ¬ s.kind ∈ ns := fun h => by
        obtain ⟨j, hj, e⟩ := List.mem_iff_getElem.1 h
        refine HI.out j (by rw [← HN.out]; exact hj) ?_
        rw [List.getD_eq_getElem?_getD, List.getElem?_eq_getElem hj]
        exact e
      rw [show ns.contains s.kind = false from by
        rcases hcs : ns.contains s.kind with _ | _
        · rfl
        · exact absurd (List.contains_iff_mem.1 hcs) hmem]
      rfl
end
end Go.Proofs.YtgmhapjidbdhnaaGreat
namespace Go.Proofs.YtgmhapjidbdhnaaGreat
open Go.RowKit
def kinds4 : List Nat := [3, 4, 6, 7]
def kinds2 : List Nat := [3, 4]
/-- What a part reads. -/
def pkRd : Pk → Ar → Ps Ar
  | .h => fld (pOpq 64) (fun v m => {m with h := v})
  | .name => fld (pOpq 1024) (fun v m => {m with name := v})
  | .h2 => fld (pOpq 64) (fun v m => {m with h2 := v})
  | .name2 => fld (pOpq 1024) (fun v m => {m with name2 := v})
  | .target => fld (pOpq 1024) (fun v m => {m with target := v})
  | .data => fld (pOpq 32768) (fun v m => {m with data := v})
  | .set => fld pSet (fun v m => {m with set := v})
  | .offset => fld pLong (fun v m => {m with offset := v})
  | .cookie => fld pLong (fun v m => {m with cookie := v})
  | .count => fld pNum (fun v m => {m with count := v})
  | .bits => fld pNum (fun v m => {m with bits := v})
  | .max => fld pNum (fun v m => {m with max := v})
  | .kind => fld pNum (fun v m => {m with kind := v})
  | .verf => fld pVerf (fun v m => {m with verf := v})
  | .stable => fld (pSmall 2) (fun v m => {m with stable := v})
  | .how => fld (pSmall 2) (fun v m => {m with how := v})
  | .guard => fun s => Ps.bind (fld pYes (fun v m => {m with hasGuard := v}) s) (ifP' Ar.hasGuard (seqP [fld pTime (fun v m => {m with guard := v})]))
  | .howVerf => ifP' (fun a => a.how == 2) (seqP [fld pVerf (fun v m => {m with verf := v})])
  | .howSet => ifP' (fun a => a.how != 2) (seqP [fld pSet (fun v m => {m with set := v})])
  | .kindSet => ifP' (fun a => kinds4.contains a.kind) (seqP [fld pSet (fun v m => {m with set := v})])
  | .kindOff => ifP' (fun a => kinds2.contains a.kind) (seqP [fld pLong (fun v m => {m with offset := v})])
/-- What a part writes. -/
def pkWr : Pk → Ar → Except Int (List UInt8)
  | .h => fun s => qOpq 64 s.h
  | .name => fun s => qOpq 1024 s.name
  | .h2 => fun s => qOpq 64 s.h2
  | .name2 => fun s => qOpq 1024 s.name2
  | .target => fun s => qOpq 1024 s.target
  | .data => fun s => qOpq 32768 s.data
  | .set => fun s => rSet s.set
  | .offset => fun s => q8 s.offset
  | .cookie => fun s => q8 s.cookie
  | .count => fun s => q4 s.count
  | .bits => fun s => q4 s.bits
  | .max => fun s => q4 s.max
  | .kind => fun s => q4 s.kind
  | .verf => fun s => qVerf s.verf
  | .stable => fun s => qSmall 2 s.stable
  | .how => fun s => qSmall 2 s.how
  | .guard => fun s => cat2 (.ok (putYes s.hasGuard)) (ifQ' Ar.hasGuard (seqQ [fun s => rTime s.guard]) s)
  | .howVerf => ifQ' (fun a => a.how == 2) (seqQ [fun s => qVerf s.verf])
  | .howSet => ifQ' (fun a => a.how != 2) (seqQ [fun s => rSet s.set])
  | .kindSet => ifQ' (fun a => kinds4.contains a.kind) (seqQ [fun s => rSet s.set])
  | .kindOff => ifQ' (fun a => kinds2.contains a.kind) (seqQ [fun s => q8 s.offset])
section
variable {K R lo : Nat} {w0 : World} {fv : Value}
theorem Nums.later {w w' : World} {lo : Nat} {lv : Value} {ns : List Nat} (h : Nums w lo lv ns) {U : Nat → Prop} (ho : Only U w w') (hU : ∀ i, lo ≤ i → i < w.heap.size → ¬ U i) : Nums w' 0 lv ns := by
  obtain ⟨b, c, e, h1, h2, h3⟩ := h
  exact ⟨b, c, e, Nat.zero_le _, Nat.lt_of_lt_of_le h2 ho.size, fun j hj => (ho.cell (a := ⟨b, j, none⟩) h2 (hU b h1 h2)).trans (h3 j hj)⟩
theorem One1.free {lv gv : Value} (h : One1 w0 lo lv gv) {U : Nat → Prop} (hlo : ∀ i, lo ≤ i → i < w0.heap.size → ¬ U i) : ∀ g, Value.inBlock lv = some g → ¬ U g := fun g hg => hlo g (h.2.2 g hg).1 (h.2.2 g hg).2
theorem kindA_cond {S : Nat → Prop} {U : Nat → Prop} {A0 L : Nat} {nv : Value} {ns : List Nat} (hl : ns.length ≤ 1000) (bA : Bx w0 lo A0 (.pointer (some ⟨K, 0, none⟩))) (bL : Bx w0 lo L nv) (hn : Nums w0 lo nv ns) (hlo : ∀ i, lo ≤ i → i < w0.heap.size → ¬ U i) : IsCond (ArRep S K) (Only U w0) (.func (.func 44) #[] #[.pointer (some ⟨L, 0, none⟩), .pointer (some ⟨A0, 0, none⟩)]) (fun a => ns.contains a.kind) :=
  rows11_cond hl fun w ho => ⟨(bA.later ho hlo).2.2, (bL.later ho hlo).2.2, hn.later ho hlo⟩
theorem pk_rd {p : Pk} (hKR : K < R) (h : PkShape w0 lo K fv p) (hlo : ∀ i, lo ≤ i → i < w0.heap.size → ¬ (i = R ∨ i = K)) : IsRd (ArRep (R < ·) K) R (fun i => i = R ∨ i = K) w0 fv (pkRd p) := by
  have hk : OkK (R < ·) K R := ⟨by omega, fun h => by have h : R < K := h; omega⟩
  have hS : RepR (ArRep (R < ·) K) R (fun i => i = R ∨ i = K) := ArRep.repR (fun g (hg : R < g) => by omega) (by omega)
  have hnew : ∀ base g, (∀ i, (i = R ∨ i = K) → i < base) → base ≤ g → R < g := fun base g h1 h2 => Nat.lt_of_lt_of_le (h1 R (.inl rfl)) h2
  cases p with
  | h => exact Bytes_isRd (by decide) hS (fS_h hk hnew) h hlo
  | name => exact Text_isRd (by decide) hS (fS_name hk) h hlo
  | h2 => exact Bytes_isRd (by decide) hS (fS_h2 hk hnew) h hlo
  | name2 => exact Text_isRd (by decide) hS (fS_name2 hk) h hlo
  | target => exact Text_isRd (by decide) hS (fS_target hk) h hlo
  | data => exact Bytes_isRd (by decide) hS (fS_data hk hnew) h hlo
  | set => exact Set_isRd hS (fS_set hk) h hlo
  | offset => exact Long_isRd hS (fS_offset hk) h hlo
  | cookie => exact Long_isRd hS (fS_cookie hk) h hlo
  | count => exact Number_isRd hS (fS_count hk) h hlo
  | bits => exact Number_isRd hS (fS_bits hk) h hlo
  | max => exact Number_isRd hS (fS_max hk) h hlo
  | kind => exact Number_isRd hS (fS_kind hk) h hlo
  | verf => exact Verf_isRd hS (fS_verf hk) h hlo
  | stable => exact Small_isRd (fun y s => rfl) hS (fS_stable hk) fG_stable h hlo
  | how => exact Small_isRd (fun y s => rfl) hS (fS_how hk) fG_how h hlo
  | howVerf =>
    obtain ⟨lv, gv, A0, hi, bA, h1, hg⟩ := h
    obtain ⟨cap, e, hr⟩ := If_part (ps := [(gv, fld pVerf (fun v m => {m with verf := v}))]) hS (rows2_cond fun w ho => (bA.later ho hlo).2.2) (fun p hp => by
      simp only [List.mem_cons, List.not_mem_nil, or_false] at hp
      subst hp
      exact Verf_isRd hS (fS_verf hk) hg hlo) h1.1 (h1.free hlo) hi hlo
    exact ⟨_, _, e, hr⟩
  | howSet =>
    obtain ⟨lv, gv, A0, hi, bA, h1, hg⟩ := h
    obtain ⟨cap, e, hr⟩ := If_part (ps := [(gv, fld pSet (fun v m => {m with set := v}))]) hS (rows3_cond fun w ho => (bA.later ho hlo).2.2) (fun p hp => by
      simp only [List.mem_cons, List.not_mem_nil, or_false] at hp
      subst hp
      exact Set_isRd hS (fS_set hk) hg hlo) h1.1 (h1.free hlo) hi hlo
    exact ⟨_, _, e, hr⟩
  | kindSet =>
    obtain ⟨lv, gv, A0, L, nv, hi, bA, bL, hn, h1, hg⟩ := h
    obtain ⟨cap, e, hr⟩ := If_part (ps := [(gv, fld pSet (fun v m => {m with set := v}))]) hS (kindA_cond (by decide) bA bL hn hlo) (fun p hp => by
      simp only [List.mem_cons, List.not_mem_nil, or_false] at hp
      subst hp
      exact Set_isRd hS (fS_set hk) hg hlo) h1.1 (h1.free hlo) hi hlo
    exact ⟨_, _, e, hr⟩
  | kindOff =>
    obtain ⟨lv, gv, A0, L, nv, hi, bA, bL, hn, h1, hg⟩ := h
    obtain ⟨cap, e, hr⟩ := If_part (ps := [(gv, fld pLong (fun v m => {m with offset := v}))]) hS (kindA_cond (by decide) bA bL hn hlo) (fun p hp => by
      simp only [List.mem_cons, List.not_mem_nil, or_false] at hp
      subst hp
      exact Long_isRd hS (fS_offset hk) hg hlo) h1.1 (h1.free hlo) hi hlo
    exact ⟨_, _, e, hr⟩
  | guard =>
    obtain ⟨lv, gv, hi, h1, hg⟩ := h
    have h1' := h1
    obtain ⟨A, n, c, rfl⟩ := h1.2.1
    exact Option_isRd (ps := [(gv, fld pTime (fun v m => {m with guard := v}))]) hS (fS_hasGuard hk) fG_hasGuard (fun p hp => by
      simp only [List.mem_cons, List.not_mem_nil, or_false] at hp
      subst hp
      exact Time_isRd hS (fS_guard hk) hg hlo) h1'.1 (h1'.free hlo) hi hlo
theorem pk_wr {S Q : Nat → Prop} {p : Pk} (hW : RepW (ArRep S K) R Q w0) (hKR : K ≠ R) (h : PkShape w0 lo K fv p) (hlo : ∀ i, lo ≤ i → i < w0.heap.size → ¬ Q i) : IsWr (ArRep S K) R Q w0 fv (pkWr p) 40000 := by
  cases p with
  | h => exact (Bytes_isWr (by decide) hW fG_h h hlo).more (by decide)
  | name => exact (Text_isWr (by decide) hW fG_name h hlo).more (by decide)
  | h2 => exact (Bytes_isWr (by decide) hW fG_h2 h hlo).more (by decide)
  | name2 => exact (Text_isWr (by decide) hW fG_name2 h hlo).more (by decide)
  | target => exact (Text_isWr (by decide) hW fG_target h hlo).more (by decide)
  | data => exact (Bytes_isWr (by decide) hW fG_data h hlo).more (by decide)
  | set => exact (Set_isWr hW fG_set h hlo).more (by decide)
  | offset => exact (Long_isWr hW fG_offset h hlo).more (by decide)
  | cookie => exact (Long_isWr hW fG_cookie h hlo).more (by decide)
  | count => exact (Number_isWr hW fG_count h hlo).more (by decide)
  | bits => exact (Number_isWr hW fG_bits h hlo).more (by decide)
  | max => exact (Number_isWr hW fG_max h hlo).more (by decide)
  | kind => exact (Number_isWr hW fG_kind h hlo).more (by decide)
  | verf => exact (Verf_isWr hW fG_verf h hlo).more (by decide)
  | stable => exact (Small_isWr hW fG_stable h hlo hKR).more (by decide)
  | how => exact (Small_isWr hW fG_how h hlo hKR).more (by decide)
  | howVerf =>
    obtain ⟨lv, gv, A0, hi, bA, h1, hg⟩ := h
    obtain ⟨cap, e, hr⟩ := If_partW (ps := [(gv, fun s => qVerf (Ar.verf s))]) hW (rows2_cond fun w ho => (bA.later ho hlo).2.2) (fun p hp => by
      simp only [List.mem_cons, List.not_mem_nil, or_false] at hp
      subst hp
      exact Verf_isWr hW fG_verf hg hlo) h1.1 (h1.free hlo) hi hlo
    exact IsWr.more ⟨_, _, e, hr⟩ (by simp)
  | howSet =>
    obtain ⟨lv, gv, A0, hi, bA, h1, hg⟩ := h
    obtain ⟨cap, e, hr⟩ := If_partW (ps := [(gv, fun s => rSet (Ar.set s))]) hW (rows3_cond fun w ho => (bA.later ho hlo).2.2) (fun p hp => by
      simp only [List.mem_cons, List.not_mem_nil, or_false] at hp
      subst hp
      exact Set_isWr hW fG_set hg hlo) h1.1 (h1.free hlo) hi hlo
    exact IsWr.more ⟨_, _, e, hr⟩ (by simp)
  | kindSet =>
    obtain ⟨lv, gv, A0, L, nv, hi, bA, bL, hn, h1, hg⟩ := h
    obtain ⟨cap, e, hr⟩ := If_partW (ps := [(gv, fun s => rSet (Ar.set s))]) hW (kindA_cond (by decide) bA bL hn hlo) (fun p hp => by
      simp only [List.mem_cons, List.not_mem_nil, or_false] at hp
      subst hp
      exact Set_isWr hW fG_set hg hlo) h1.1 (h1.free hlo) hi hlo
    exact IsWr.more ⟨_, _, e, hr⟩ (by simp)
  | kindOff =>
    obtain ⟨lv, gv, A0, L, nv, hi, bA, bL, hn, h1, hg⟩ := h
    obtain ⟨cap, e, hr⟩ := If_partW (ps := [(gv, fun s => q8 (Ar.offset s))]) hW (kindA_cond (by decide) bA bL hn hlo) (fun p hp => by
      simp only [List.mem_cons, List.not_mem_nil, or_false] at hp
      subst hp
      exact Long_isWr hW fG_offset hg hlo) h1.1 (h1.free hlo) hi hlo
    exact IsWr.more ⟨_, _, e, hr⟩ (by simp)
  | guard =>
    obtain ⟨lv, gv, hi, h1, hg⟩ := h
    have h1' := h1
    obtain ⟨A, n, c, rfl⟩ := h1.2.1
    exact (Option_isWr (ps := [(gv, fun s => rTime (Ar.guard s))]) hW fG_hasGuard (fun p hp => by
      simp only [List.mem_cons, List.not_mem_nil, or_false] at hp
      subst hp
      exact Time_isWr hW fG_guard hg hlo) h1'.1 (h1'.free hlo) hi hlo).more (by simp)
end
theorem kinds4_eq (k : Nat) : kinds4.contains k = (k == 3 || (k == 4 || (k == 6 || k == 7))) := by
  rw [Bool.eq_iff_iff]; simp [kinds4, List.contains_cons]
theorem kinds2_eq (k : Nat) : kinds2.contains k = (k == 3 || k == 4) := by
  rw [Bool.eq_iff_iff]; simp [kinds2, List.contains_cons]
theorem cat2_assoc (a b c : Except Int (List UInt8)) : cat2 (cat2 a b) c = cat2 a (cat2 b c) := by
  rcases a with e | a
  · rfl
  rcases b with e | b
  · rfl
  rcases c with e | c
  · rfl
  simp [cat2]
theorem seqQ_cons (q : Ar → Except Int (List UInt8)) (l : List (Ar → Except Int (List UInt8))) (s : Ar) : seqQ (q :: l) s = cat2 (q s) (seqQ l s) := catP_cons _ _
theorem seqQ_nil (s : Ar) : seqQ [] s = .ok [] := rfl
theorem seqW_nil (s : Ar) : seqW [] s = .ok [] := rfl
/-- The rows are the parts that the plain reader reads. -/
theorem row_rd (p : Nat) (hp : p ≤ 21) : seqP ((rowsOf p).map pkRd) = seqR (partsOf p) := by
  match p, hp with
  | 0, _ => rfl
  | 1, _ => rfl
  | 2, _ =>
    funext m
    show Ps.bind (ptH.rd m) (fun m => Ps.bind (ptSet.rd m) fun m => Ps.bind (Ps.bind (ptYes.rd m) (ifP Ar.hasGuard [ptGuard]).rd) Ps.pure) = Ps.bind (ptH.rd m) fun m => Ps.bind (ptSet.rd m) fun m => Ps.bind (ptYes.rd m) fun m => Ps.bind ((ifP Ar.hasGuard [ptGuard]).rd m) Ps.pure
    simp only [Ps.bind_assoc]
  | 3, _ => rfl
  | 4, _ => rfl
  | 5, _ => rfl
  | 6, _ => rfl
  | 7, _ => rfl
  | 8, _ => rfl
  | 9, _ => rfl
  | 10, _ => rfl
  | 11, _ =>
    show seqP [ptH.rd, ptName.rd, ptKind.rd, ifP' (fun a => kinds4.contains a.kind) (seqR [ptSet]), ifP' (fun a => kinds2.contains a.kind) (seqR [ptOffset])] = _
    simp only [kinds4_eq, kinds2_eq]
    rfl
  | 12, _ => rfl
  | 13, _ => rfl
  | 14, _ => rfl
  | 15, _ => rfl
  | 16, _ => rfl
  | 17, _ => rfl
  | 18, _ => rfl
  | 19, _ => rfl
  | 20, _ => rfl
  | 21, _ => rfl
  | n + 22, h => exact absurd h (by omega)
theorem row_wr (p : Nat) (hp : p ≤ 21) : seqQ ((rowsOf p).map pkWr) = seqW (partsOf p) := by
  match p, hp with
  | 0, _ => rfl
  | 1, _ => rfl
  | 2, _ =>
    funext s
    show seqQ [pkWr .h, pkWr .set, pkWr .guard] s = seqW [ptH, ptSet, ptYes, ifP Ar.hasGuard [ptGuard]] s
    simp only [seqQ_cons, seqQ_nil, seqW_cons, seqW_nil]
    show cat2 (ptH.wr s) (cat2 (ptSet.wr s) (cat2 (cat2 (ptYes.wr s) ((ifP Ar.hasGuard [ptGuard]).wr s)) (.ok []))) = _
    rw [cat2_assoc]
  | 3, _ => rfl
  | 4, _ => rfl
  | 5, _ => rfl
  | 6, _ => rfl
  | 7, _ => rfl
  | 8, _ => rfl
  | 9, _ => rfl
  | 10, _ => rfl
  | 11, _ =>
    show seqQ [ptH.wr, ptName.wr, ptKind.wr, ifQ' (fun a => kinds4.contains a.kind) (seqW [ptSet]), ifQ' (fun a => kinds2.contains a.kind) (seqW [ptOffset])] = _
    simp only [kinds4_eq, kinds2_eq]
    rfl
  | 12, _ => rfl
  | 13, _ => rfl
  | 14, _ => rfl
  | 15, _ => rfl
  | 16, _ => rfl
  | 17, _ => rfl
  | 18, _ => rfl
  | 19, _ => rfl
  | 20, _ => rfl
  | 21, _ => rfl
  | n + 22, h => exact absurd h (by omega)
end Go.Proofs.YtgmhapjidbdhnaaGreat

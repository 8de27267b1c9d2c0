/- What procedures are asked, as plain readers and writers of their parts. No program in sight. -/
import Derived.Test.YtgmhapjidbdhnaaGreatJF
import Derived.Deep.MidRow
import Derived.Test.YtgmhapjidbdhnaaGreatJA
import Derived.Test.YtgmhapjidbdhnaaGreatJC
import Derived.Laws.AppendOwnNone
import Derived.Lib.SliceRun
import Derived.LoopN
import Derived.Test.YtgmhapjidbdhnaaGreatJE
set_option linter.unusedVariables false
set_option linter.unusedSimpArgs false
namespace Go.Proofs.YtgmhapjidbdhnaaGreat
open Go.RowKit
theorem setCells_heap (b k : Nat) (hk : k ≠ b) : ∀ (vs : List Value) (o : Nat) (w : World), (w.setCells b o vs).heap[k]? = w.heap[k]?
  | [], _, _ => rfl
  | v :: r, o, w => by rw [World.setCells, setCells_heap b k hk r]; exact Below.heap_setCell _ _ _ _ hk
theorem setCells_same (b : Nat) : ∀ (vs : List Value) (o : Nat) (w : World), (w.setCells b o vs).os = w.os ∧ (w.setCells b o vs).tape = w.tape ∧ (w.setCells b o vs).output = w.output ∧ (w.setCells b o vs).heap.size = w.heap.size
  | [], _, _ => ⟨rfl, rfl, rfl, rfl⟩
  | v :: r, o, w => by
    rw [World.setCells]
    obtain ⟨h1, h2, h3, h4⟩ := setCells_same b r (o + 1) (w.setCell ⟨b, o, none⟩ v)
    exact ⟨h1, h2, h3, by rw [h4]; simp [World.setCell]⟩
theorem gb_setCells {a w : World} {r : Option Nat} (h : a.grownBy w r) {b o : Nat} {vs : List Value} (hb : a.heap.size ≤ b) : a.grownBy (w.setCells b o vs) r := by
  obtain ⟨h1, h2, h3, h4⟩ := setCells_same b vs o w
  exact ⟨h1.trans h.os, h2.trans h.tape, h3.trans h.output, by rw [h4]; exact h.size, fun i hi hne => (setCells_heap b i (by omega) vs o w).trans (h.block i hi hne)⟩
theorem bl_setCells {a w : World} (h : Below a.heap.size a w) {b o : Nat} {vs : List Value} (hb : a.heap.size ≤ b) : Below a.heap.size a (w.setCells b o vs) := by
  obtain ⟨h1, h2, h3, h4⟩ := setCells_same b vs o w
  exact ⟨h1.trans h.os, h2.trans h.tape, h3.trans h.output, by rw [h4]; exact h.size, fun i hi => (setCells_heap b i (by omega) vs o w).trans (h.block i hi)⟩
namespace OwnL
variable {w : World} {b : Nat} {l : List Value}
theorem range (h : OwnL w b l) : w.rangeAt b 0 l := fun j v hv => by rw [Nat.zero_add, h.2.1, hv]
theorem there (h : OwnL w b l) : w.there b 0 l.length := fun j hj => by
  rw [Nat.zero_add]
  exact ⟨by rw [h.2.1, List.getElem?_eq_getElem hj]; rfl, h.2.2 j⟩
theorem sets (h : OwnL w b l) {vs : List Value} (hl : vs.length = l.length) : OwnL (w.setCells b 0 vs) b vs := by
  refine ⟨by rw [(setCells_same b vs 0 w).2.2.2]; exact h.1, fun o => ?_, fun o => by rw [World.frozen?_setCells]; exact h.2.2 o⟩
  by_cases ho : o < vs.length
  · have := World.rangeAt_setCells_same w b 0 vs (by rw [hl]; exact h.there) o vs[o] (List.getElem?_eq_getElem ho)
    rw [Nat.zero_add] at this
    rw [this, List.getElem?_eq_getElem ho]
  · rw [World.cell?_setCells_out b vs 0 w _ (fun _ _ => Or.inr (by simp; omega)), h.2.1, List.getElem?_eq_none (by omega), List.getElem?_eq_none (by omega)]
theorem sets_other (h : OwnL w b l) {b' o' : Nat} {vs : List Value} (hne : b ≠ b') : OwnL (w.setCells b' o' vs) b l := by
  refine ⟨by rw [(setCells_same b' vs o' w).2.2.2]; exact h.1, fun o => ?_, fun o => by rw [World.frozen?_setCells]; exact h.2.2 o⟩
  rw [World.cell?_setCells_out b' vs o' w _ (fun hb _ => absurd hb hne)]; exact h.2.1 o
end OwnL
theorem results_cell {P : Program} {fn : Func} {tmps : Array Value} {w : World} {a : Nat} {t : TypeId} {b : Nat} {l : List Value} {d : TypeDesc} (hr : fn.results = #[.cell a t]) (ht : tmps[a]? = some (.pointer (some ⟨b, 0, none⟩))) (h : OwnL w b l)
    (hu : P.underlying t = some d) (hd : d.isRow = true) (hi : (P.info? t).map (·.size) = some l.length) : (results fn tmps).run P w = .ok (.agg l.toArray) w := by
  have hv := run_loadVar_mid w b 0 t l d h.range hu hd hi
  simp [results, hr, ht, asAddr, hv]
theorem results_cell3 {P : Program} {fn : Func} {tmps : Array Value} {w : World} {a c e : Nat} {x y : Value} {t : TypeId} {b : Nat} {l : List Value} {d : TypeDesc} (hr : fn.results = #[.cell a t, .tmp c, .tmp e]) (ht : tmps[a]? = some (.pointer (some ⟨b, 0, none⟩))) (hx : tmps[c]? = some x) (hy : tmps[e]? = some y) (h : OwnL w b l)
    (hu : P.underlying t = some d) (hd : d.isRow = true) (hi : (P.info? t).map (·.size) = some l.length) : (results fn tmps).run P w = .ok (.tuple #[.agg l.toArray, x, y]) w := by
  have hv := run_loadVar_mid w b 0 t l d h.range hu hd hi
  simp [results, hr, ht, hx, hy, asAddr, hv]
theorem OwnL.new {w : World} {l : List Value} {t : TypeId} : OwnL (w.alloc (.cells l.toArray t)) w.heap.size l := ⟨by simp, fun o => by simp [go_sem], fun o => by simp [go_sem]⟩
theorem OwnL.alloc {w : World} {b : Nat} {l : List Value} (h : OwnL w b l) {o : Obj} : OwnL (w.alloc o) b l :=
  ⟨by have := h.1; simp; omega, fun i => (World.cell?_of_block (a := ⟨b, i, none⟩) (Below.heap_alloc _ _ _ h.1)).trans (h.2.1 i), fun i => (World.frozen?_of_block (a := ⟨b, i, none⟩) (Below.heap_alloc _ _ _ h.1)).trans (h.2.2 i)⟩
theorem OwnL.drew {w : World} {b : Nat} {l : List Value} (h : OwnL w b l) : OwnL w.drew b l := h
theorem wp_world {P : Program} {c : Code} {Q : Exit → Act → World → Prop} {a : Act} {w : World} (S : World → Prop) (hS : S w) (h : ∀ w', S w' → c.wp P Q a w') : c.wp P Q a w := h w hS
end Go.Proofs.YtgmhapjidbdhnaaGreat
namespace Go.Proofs.YtgmhapjidbdhnaaGreat
open Go.RowKit
/-- Nothing but the blocks that P names has changed, and new ones have come. -/
structure Only (P : Nat → Prop) (w w' : World) : Prop where
  os : w'.os = w.os
  tape : w'.tape = w.tape
  output : w'.output = w.output
  size : w.heap.size ≤ w'.heap.size
  block : ∀ k, k < w.heap.size → ¬ P k → w'.heap[k]? = w.heap[k]?
namespace Only
variable {P Q : Nat → Prop} {w w1 w2 : World}
theorem refl (P : Nat → Prop) (w : World) : Only P w w := ⟨rfl, rfl, rfl, Nat.le_refl _, fun _ _ _ => rfl⟩
theorem then_ (h : Only P w w1) (k : Only Q w1 w2) (hQ : ∀ i, i < w.heap.size → Q i → P i) : Only P w w2 :=
  ⟨k.os.trans h.os, k.tape.trans h.tape, k.output.trans h.output, Nat.le_trans h.size k.size, fun i hi hp => (k.block i (Nat.lt_of_lt_of_le hi h.size) (fun hq => hp (hQ i hi hq))).trans (h.block i hi hp)⟩
theorem trans (h : Only P w w1) (k : Only P w1 w2) : Only P w w2 := h.then_ k fun _ _ h => h
theorem mono (h : Only P w w1) (hP : ∀ i, i < w.heap.size → P i → Q i) : Only Q w w1 := ⟨h.os, h.tape, h.output, h.size, fun i hi hq => h.block i hi fun hp => hq (hP i hi hp)⟩
theorem below (h : Only P w w1) (k : Below w1.heap.size w1 w2) : Only P w w2 :=
  ⟨k.os.trans h.os, k.tape.trans h.tape, k.output.trans h.output, Nat.le_trans h.size k.size, fun i hi hp => (k.block i (Nat.lt_of_lt_of_le hi h.size)).trans (h.block i hi hp)⟩
theorem of_below (k : Below w.heap.size w w1) : Only P w w1 := (Only.refl P w).below k
theorem grown (h : Only P w w1) {r : Option Nat} (k : w1.grownBy w2 r) (hr : ∀ i, i < w.heap.size → some i = r → P i) : Only P w w2 :=
  ⟨k.os.trans h.os, k.tape.trans h.tape, k.output.trans h.output, Nat.le_trans h.size k.size, fun i hi hp => (k.block i (Nat.lt_of_lt_of_le hi h.size) (fun e => hp (hr i hi e))).trans (h.block i hi hp)⟩
theorem alloc (h : Only P w w1) (o : Obj) : Only P w (w1.alloc o) := h.below (bl_alloc (Below.refl _ _) o)
theorem drew (h : Only P w w1) : Only P w w1.drew := h.below (bl_drew (Below.refl _ _))
theorem drewN (h : Only P w w1) {m : Nat} : Only P w (w1.drewN m) := h.below (bl_drewN (Below.refl _ _))
theorem setCell (h : Only P w w1) {p : Addr} (hp : w.heap.size ≤ p.block ∨ P p.block) (v : Value) : Only P w (w1.setCell p v) := by
  refine h.grown (r := some p.block) ⟨rfl, rfl, rfl, by simp, fun k hk hn => ?_⟩ (fun i hi e => ?_)
  · have := (World.grownBy.refl w1 (some p.block))
    exact (gb_setR (R := p.block) (j := p.off) (s := p.spot) this v).block k hk hn
  · injection e with e; subst e
    rcases hp with hp | hp
    · omega
    · exact hp
theorem cell (h : Only P w w1) {a : Addr} (ha : a.block < w.heap.size) (hn : ¬ P a.block) : w1.cell? a = w.cell? a := World.cell?_of_block (h.block _ ha hn)
theorem frozen (h : Only P w w1) {a : Addr} (ha : a.block < w.heap.size) (hn : ¬ P a.block) : w1.frozen? a = w.frozen? a := World.frozen?_of_block (h.block _ ha hn)
end Only
theorem OwnL.only {P : Nat → Prop} {w w' : World} {b : Nat} {l : List Value} (h : OwnL w b l) (ho : Only P w w') (hn : ¬ P b) : OwnL w' b l :=
  ⟨Nat.lt_of_lt_of_le h.1 ho.size, fun o => (ho.cell (a := ⟨b, o, none⟩) h.1 hn).trans (h.2.1 o), fun o => (ho.frozen (a := ⟨b, o, none⟩) h.1 hn).trans (h.2.2 o)⟩
theorem OwnB.only {P : Nat → Prop} {w w' : World} {base : Nat} {v : Value} {bs : List UInt8} (h : OwnB w base v bs) (ho : Only P w w') (hn : ∀ g, v.ownBlock = some g → ¬ P g) : OwnB w' base v bs := by
  unfold OwnB at h ⊢
  rcases h.2 with hn0 | ⟨g, cap, cur, hv, hb1, hh, hr⟩
  · exact ⟨h.1, .inl hn0⟩
  · exact ⟨h.1, .inr ⟨g, cap, cur, hv, hb1, (ho.block g (Array.getElem?_eq_some_iff.1 hh).1 (hn g (by rw [hv]; rfl))).trans hh, hr⟩⟩
end Go.Proofs.YtgmhapjidbdhnaaGreat
namespace Go.Proofs.YtgmhapjidbdhnaaGreat
open Go.RowKit
/-- A slice of bytes that can be read: none, or at an address. -/
def Rd (w : World) (v : Value) (ys : List UInt8) : Prop :=
  (v = .slice none 0 0 ∧ ys = []) ∨ ∃ b off c, v = .slice (some ⟨b, off, none⟩) ys.length c ∧ ys.length ≤ c ∧ c ≤ 9223372036854775807 ∧ b < w.heap.size ∧ ∀ j, j < ys.length → w.cell? ⟨b, off + j, none⟩ = some (.int .u8 (ys.getD j 0).toNat)
theorem Rd.below {w w' : World} {v : Value} {ys : List UInt8} (h : Rd w v ys) (hb : Below w.heap.size w w') : Rd w' v ys := by
  rcases h with h | ⟨b, off, c, e, h1, h2, h3, h4⟩
  · exact .inl h
  · exact .inr ⟨b, off, c, e, h1, h2, Nat.lt_of_lt_of_le h3 hb.size, fun j hj => (hb.cell (p := ⟨b, off + j, none⟩) h3).trans (h4 j hj)⟩
/-- The block that a slice stands in. -/
def Value.inBlock : Value → Option Nat
  | .slice (some a) _ _ => some a.block
  | _ => none
theorem Rd.only {P : Nat → Prop} {w w' : World} {v : Value} {ys : List UInt8} (h : Rd w v ys) (ho : Only P w w') (hn : ∀ g, Value.inBlock v = some g → ¬ P g) : Rd w' v ys := by
  rcases h with h | ⟨b, off, c, rfl, h1, h2, h3, h4⟩
  · exact .inl h
  · exact .inr ⟨b, off, c, rfl, h1, h2, Nat.lt_of_lt_of_le h3 ho.size, fun j hj => (ho.cell (a := ⟨b, off + j, none⟩) h3 (hn b rfl)).trans (h4 j hj)⟩
theorem Rd.bs {w : World} {v : Value} {ys : List UInt8} (h : Rd w v ys) : ∃ A c, v = .slice A ys.length c ∧ ys.length ≤ c ∧ c ≤ 9223372036854775807 ∧ Bs w A ys.length ys ∧ (A = none → c = 0) := by
  rcases h with ⟨rfl, rfl⟩ | ⟨b, off, c, rfl, h1, h2, h3, h4⟩
  · exact ⟨none, 0, rfl, Nat.le_refl _, by omega, Bs.nil _ _, fun _ => rfl⟩
  · exact ⟨_, c, rfl, h1, h2, ⟨rfl, by omega, fun _ => ⟨b, off, rfl, h3, h4⟩⟩, fun h => by cases h⟩
theorem OwnB.rd {w : World} {base : Nat} {v : Value} {bs : List UInt8} (h : OwnB w base v bs) : Rd w v bs := by
  have h' := h
  unfold OwnB at h
  rcases h.2 with ⟨rfl, h0⟩ | ⟨g, cap, cur, rfl, hb, hh, hn, hc, hs, ht⟩
  · exact .inl ⟨rfl, List.length_eq_zero_iff.1 h0⟩
  · simp only [maxLen] at hc
    refine .inr ⟨g, 0, cap, rfl, hn, by omega, (Array.getElem?_eq_some_iff.1 hh).1, fun j hj => ?_⟩
    have e := World.ownsRow.cellAt h' j (by simpa [u8s] using hj)
    rw [Nat.zero_add, e, u8s, List.getElem?_map, List.getD_eq_getElem?_getD]
    simp [hj]
theorem oper_append_rd {w : World} {o : Oper} {a : Act} {K : Act → World → Prop} {Q : Exit → Act → World → Prop} {base : Nat} {v v2 : Value} {xs ys : List UInt8} (s x : Operand)
    (ho : o.op = .call { callee := .builtin .append, args := #[s, x], argTypes := #[24, 24] })
    (hs : a.eval s = v) (hx : a.eval x = v2) (h1 : OwnB w base v xs) (h2 : Rd w v2 ys) (hlen : xs.length + ys.length ≤ 1099511627776) (hbase : base ≤ w.heap.size)
    (h : ∀ v' w', OwnB w' base v' (xs ++ ys) → w.grownBy w' v.ownBlock → Below base w w' → K (a.put o.dst v') w') : Oper.wp Tryz.prog o a w K Q := by
  have hi := info_u8
  obtain ⟨i0, hi, hz⟩ : ∃ i0, Tryz.prog.info? 5 = some i0 ∧ (i0.zero, i0.size, i0.bytes) = (some (.int .u8 0), 1, 1) := by
    cases he : Tryz.prog.info? 5 with
    | none => rw [he] at hi; cases hi
    | some i0 => rw [he] at hi; exact ⟨i0, rfl, by simpa using hi⟩
  simp only [Prod.mk.injEq] at hz
  have h1' := h1
  unfold OwnB at h1'
  rcases h2 with ⟨rfl, rfl⟩ | ⟨b, off, c, rfl, hc1, hc2, hb, hcell⟩
  · have hrun := run_append_owned_none (P := Tryz.prog) (w := w) base 24 o.type 5 i0 1 Tryz.underlying24 hi v xs.length _ h1'
    unfold Oper.wp
    simp only [execOp, ho, resolve, invoke, builtin, hs, hx, hrun, Result.andThen, Sem.run_bind, Sem.run_pure, Result.andThen_ok, List.map_toArray, List.map_cons, List.map_nil]
    exact h v w (by rw [List.append_nil]; exact h1) (World.grownBy.refl _ _) (Below.refl _ _)
  · refine wp_append_own w s x 24 ho base 5 i0 (.int .u8 0) 1 1 Tryz.underlying24 hi hz.1 hz.2.1 hz.2.2 rfl (by decide) v _ _ hs h1' _ _ _ (u8s ys) hx (by simp [u8s]) (fun j u hu => ?_) (by intro u hu; obtain ⟨y, _, rfl⟩ := List.mem_map.1 hu; rfl) (by unfold maxLen; omega) (by omega) hbase ?_
    · have hj : j < ys.length := by
        have := (List.getElem?_eq_some_iff.1 hu).1
        simpa [u8s] using this
      rw [Addr.add_lit, hcell j hj, ← hu, u8s, List.getElem?_map, List.getD_eq_getElem?_getD]
      simp [hj]
    · intro v' w' ho' hg' _
      refine h v' w' ?_ hg' ⟨hg'.os, hg'.tape, hg'.output, hg'.size, fun i hi => hg'.block i (by omega) ?_⟩
      · rw [← u8s_append, ← List.length_append] at ho'; exact ho'
      · rcases h1.2 with ⟨rfl, _⟩ | ⟨g1, c1, cur1, rfl, hb1, _⟩
        · simp [Value.ownBlock]
        · simp [Value.ownBlock]; omega
theorem wp_append_rd {w : World} {ops : Array Oper} {rest : List Oper} {o : Oper} {a : Act} {Q : Exit → Act → World → Prop} {base : Nat} {v v2 : Value} {xs ys : List UInt8} (hgd : o.guard = none) (s x : Operand)
    (ho : o.op = .call { callee := .builtin .append, args := #[s, x], argTypes := #[24, 24] })
    (hs : a.eval s = v) (hx : a.eval x = v2) (h1 : OwnB w base v xs) (h2 : Rd w v2 ys) (hlen : xs.length + ys.length ≤ 1099511627776) (hbase : base ≤ w.heap.size)
    (h : ∀ v' w', OwnB w' base v' (xs ++ ys) → w.grownBy w' v.ownBlock → Below base w w' → wpList Tryz.prog ops Q rest (a.put o.dst v') w') : wpList Tryz.prog ops Q (o :: rest) a w :=
  wpList_plain hgd fun _ hK => oper_append_rd s x ho hs hx h1 h2 hlen hbase fun v' w' a b c => hK _ _ (h v' w' a b c)
/-- Empty bytes in a block of their own. -/
theorem OwnB.empty (w : World) : OwnB (w.alloc (.cells #[] 5)) w.heap.size (.slice (some ⟨w.heap.size, 0, none⟩) 0 0) [] :=
  ⟨rfl, .inr ⟨w.heap.size, 0, #[], rfl, Nat.le_refl _, heap_alloc_new _ _, Nat.le_refl _, Nat.zero_le _, rfl, rfl⟩⟩
set_option maxRecDepth 100000 in
set_option maxHeartbeats 1000000 in
theorem Clone_any {w : World} {v : Value} {ys : List UInt8} (h : Rd w v ys) (hl : ys.length ≤ 4000000) : Calls Tryz.prog 78 #[v] w fun e w' => ∃ v', e = .returned v' ∧ OwnB w' w.heap.size v' ys ∧ Below w.heap.size w w' := by
  have H := Lib.hid h
  rcases h with ⟨rfl, rfl⟩ | ⟨b, off, c, rfl, hc1, hc2, hb, hcell⟩
  · have hq : ∀ w, (binOp .eql 24 (.slice none 0 0) (.slice none 0 0)).run Tryz.prog w = .ok (.bool true) w := fun w => (Lib.run_eql_slice_nil w 24 5 none 0 0 0 0 Tryz.underlying24)
    go_enter Tryz.func78, Tryz.ntmps78
    go_wp2
    go_ret
    exact ⟨_, rfl, OwnB.nil _ _, Below.refl _ _⟩
  · clear hcell
    have hq : ∀ w, (binOp .eql 24 (.slice (some ⟨b, off, none⟩) ys.length c) (.slice none 0 0)).run Tryz.prog w = .ok (.bool false) w := fun w => (Lib.run_eql_slice_nil w 24 5 (some ⟨b, off, none⟩) ys.length c 0 0 Tryz.underlying24)
    go_enter Tryz.func78, Tryz.ntmps78
    have oE := OwnB.empty w
    have hB : Below w.heap.size w (w.alloc (.cells #[] 5)) := bl_alloc (Below.refl _ _) _
    go_wp2_with (at_builtin; refine wp_append_rd rfl _ _ rfl rfl rfl oE (H.out.below hB) (by simp; omega) (by simp) ?_; intro v' w' o1 g1 b1)
    go_ret
    exact ⟨_, rfl, by simpa using o1, hB.trans b1⟩
end Go.Proofs.YtgmhapjidbdhnaaGreat
namespace Go.Proofs.YtgmhapjidbdhnaaGreat
open Go.ChangeShapes Go.WideShapes Go.ChangeAt Go.RowKit
section
variable {H : Type} {enc : TypeId × Value → H} {P : Program} {w : World} {r : Reach} {b0 base : Nat} {t : TypeId} {v : Value} {d : DataW H} {p : List MemPlace} {held : Bool}
theorem open_rd {e : TypeId} (hu : P.underlying t = some (.slice e)) (he : P.underlying e = some (.int .u8)) (hc : P.cellsOf e = 1) (hv : Value.okWide P w r b0 t v) (h : DataW.Trod enc P w base (fun _ => true) held t v d p) :
    ∃ (A : Option Addr) (l c : Nat) (xs : List UInt8), v = .slice A l c ∧ Rd w (.slice A l c) xs ∧ xs.length = l := by
  obtain ⟨A, l, c, xs, rfl, hB, hl, hnil⟩ := open_bytes hu he hc hv h
  have hlen : xs.length = l := hB.1
  refine ⟨A, l, c, xs, rfl, ?_, hlen⟩
  simp only [Value.okWide, hu, Cell.okWide, Cell.ok] at hv
  cases A with
  | none =>
    obtain rfl := hnil rfl
    obtain rfl : l = 0 := by omega
    exact .inl ⟨rfl, List.eq_nil_of_length_eq_zero hlen⟩
  | some x =>
    obtain ⟨_, hm, _, hsp, row, cells, hsh, _⟩ := hv
    obtain ⟨b, off, sp⟩ := x
    have hsp : sp = none := hsp
    subst hsp
    have hb : b < w.heap.size := by
      rcases Nat.lt_or_ge b w.heap.size with h | h
      · exact h
      · simp [World.shape?, Array.getElem?_eq_none h] at hsh
    refine .inr ⟨b, off, c, by rw [hlen], by rw [hlen]; exact hl, by simp [IntKind.max, IntKind.signed, IntKind.bits] at hm; omega, hb, fun j hj => ?_⟩
    obtain ⟨b', off', e1, _, hcell⟩ := hB.2.2 (by omega)
    injection e1 with e1
    injection e1 with e2 e3
    subst e2; subst e3
    exact hcell j (by omega)
end
end Go.Proofs.YtgmhapjidbdhnaaGreat
namespace Go.Proofs.YtgmhapjidbdhnaaGreat
open Go.RowKit
set_option maxRecDepth 100000 in
set_option maxHeartbeats 2000000 in
theorem Grow_any (n : Nat) (hn2 : n ≤ 4200000) (w : World) :
    Calls Tryz.prog 51 #[.slice none 0 0, .int .i64 n] w fun e w' => ∃ v, e = .returned v ∧ OwnB w' w.heap.size v [] ∧ Below w.heap.size w w' := by
  by_cases hn : 0 < n
  · exact Grow_nil n hn hn2 w
  · obtain rfl : n = 0 := by omega
    go_enter Tryz.func51, Tryz.ntmps51
    go_wp2
    go_ret
    exact ⟨_, rfl, OwnB.nil _ _, by (with_reducible (repeat' (first | exact Below.refl _ _ | assumption | apply bl_alloc | apply bl_drewN | apply bl_drew | refine bl_set ?_ ?_ _))) <;> (first | done | (simp; done) | (simp; omega) | omega)⟩
set_option maxRecDepth 100000 in
set_option maxHeartbeats 2000000 in
theorem Concat_rd {g : Nat} {v1 v2 : Value} {bs1 bs2 : List UInt8} {w : World} (hg : g < w.heap.size) (h1 : w.cell? ⟨g, 0, none⟩ = some v1) (h2 : w.cell? ⟨g, 1, none⟩ = some v2) (o1 : Rd w v1 bs1) (o2 : Rd w v2 bs2)
    (l1 : bs1.length ≤ 2000000) (l2 : bs2.length ≤ 2000000) :
    Calls Tryz.prog 27 #[.slice (some ⟨g, 0, none⟩) 2 2] w fun e w' => ∃ v, e = .returned v ∧ OwnB w' w.heap.size v (bs1 ++ bs2) ∧ Below w.heap.size w w' := by
  obtain ⟨A1, c1, rfl, -, -, -, -⟩ := o1.bs
  obtain ⟨A2, c2, rfl, -, -, -, -⟩ := o2.bs
  have L1 := Lib.hid l1; have L2 := Lib.hid l2
  have O1 := Lib.hid o1; have O2 := Lib.hid o2
  obtain ⟨n1, hn1⟩ : ∃ n1, bs1.length = n1 := ⟨_, rfl⟩
  obtain ⟨n2, hn2⟩ : ∃ n2, bs2.length = n2 := ⟨_, rfl⟩
  rw [hn1] at h1 O1 l1; rw [hn2] at h2 O2 l2
  have N1 := Lib.hid hn1; have N2 := Lib.hid hn2
  clear hn1 hn2 o1 o2
  have hw1 := w64_one n1 l1
  have hw2 := w64_two n1 n2 l1 l2
  have hneg : ¬ (((n1 + n2 : Nat) : Int) < 0) := by omega
  have hneg1 : ¬ ((n1 : Int) < 0) := by omega
  have hG : ∀ w, Calls Tryz.prog 51 #[.slice none 0 0, .int .i64 ((n1 : Int) + n2)] w fun e w' => ∃ v, e = .returned v ∧ OwnB w' w.heap.size v [] ∧ Below w.heap.size w w' := fun w => by
    have h := Grow_any (n1 + n2) (by omega) w
    simpa only [Int.natCast_add] using h
  have HG := Lib.hid hG; clear hG
  go_enter Tryz.func27, Tryz.ntmps27
  go_wp2_with fail
  refine wp_loop_rounds 3 ?_
  rw [rounds_succ]; go_wp2_with fail
  rw [rounds_succ]; go_wp2_with fail
  rw [rounds_succ]; go_wp2_with fail
  refine (HG.out _).mono ?_
  rintro e w1 ⟨v, rfl, ov, b1⟩
  have O1 := Lib.hid (O1.out.below b1)
  have hc0 : w1.cell? ⟨g, 0, none⟩ = _ := (b1.cell (p := ⟨g, 0, none⟩) hg).trans h1
  have hc1 : w1.cell? ⟨g, 1, none⟩ = _ := (b1.cell (p := ⟨g, 1, none⟩) hg).trans h2
  have hgl : g < w1.heap.size := Nat.lt_of_lt_of_le hg b1.size
  have hz := b1.size
  clear hw1 hw2 hneg hneg1 h1 h2
  go_wp2_with fail
  refine wp_loop_rounds 3 ?_
  rw [rounds_succ]
  go_wp2_with (at_builtin; refine wp_append_rd rfl _ _ rfl rfl rfl ov O1.out (by have := L1.out; simp; omega) hz ?_; intro v1 w2 ov1 g2 b2)
  have hc2 : w2.cell? ⟨g, 1, none⟩ = _ := (b2.cell (p := ⟨g, 1, none⟩) hg).trans hc1
  have hz2 : w.heap.size ≤ w2.heap.size := Nat.le_trans hz b2.size
  have O2 := Lib.hid (O2.out.below (b1.trans b2))
  rw [rounds_succ]
  go_wp2_with (at_builtin; refine wp_append_rd rfl _ _ rfl rfl rfl ov1 O2.out (by have := L1.out; have := L2.out; simp; omega) hz2 ?_; intro v2 w3 ov2 g3 b3)
  rw [rounds_succ]
  go_wp2_with fail
  go_ret
  exact ⟨_, rfl, by simpa using ov2, (b1.trans b2).trans b3⟩
end Go.Proofs.YtgmhapjidbdhnaaGreat
namespace Go.Proofs.YtgmhapjidbdhnaaGreat
open Go.RowKit
/-- A reader and a writer that fit, over what may be written. -/
structure Lawful {α : Type} (p : Ps α) (q : α → Except Int (List UInt8)) (wf : α → Prop) : Prop where
  back : ∀ v bs, wf v → q v = .ok bs → ∀ c, p (bs ++ c) = .ok (v, bs.length)
  again : ∀ b v k, p b = .ok (v, k) → k ≤ b.length ∧ wf v ∧ q v = .ok (b.take k)
  short : ∀ v bs, wf v → q v = .ok bs → ∀ j, j < bs.length → p (bs.take j) = .error 4
/-- Two parts, one behind the other. -/
def cat2 (r s : Except Int (List UInt8)) : Except Int (List UInt8) := match r with | .error e => .error e | .ok b => match s with | .error e => .error e | .ok c => .ok (b ++ c)
theorem catP_cons (r : Except Int (List UInt8)) (rs : List (Except Int (List UInt8))) : catP (r :: rs) = cat2 r (catP rs) := by
  cases r with
  | error e => rfl
  | ok b => rfl
theorem catP_one (r : Except Int (List UInt8)) : catP [r] = r := by
  cases r with
  | error e => rfl
  | ok b => simp [catP]
theorem cat2_ok {r s : Except Int (List UInt8)} {bs : List UInt8} (h : cat2 r s = .ok bs) : ∃ b c, r = .ok b ∧ s = .ok c ∧ bs = b ++ c := by
  unfold cat2 at h
  rcases r with e | b
  · cases h
  · rcases s with e | c
    · cases h
    · injection h with h; exact ⟨b, c, rfl, rfl, h.symm⟩
namespace Lawful
variable {α β : Type}
theorem pure {x : α} {q : α → Except Int (List UInt8)} {wf : α → Prop} (hw : ∀ v, wf v ↔ v = x) (hq : q x = .ok []) : Lawful (Ps.pure x) q wf where
  back v bs hv h c := by
    obtain rfl := (hw v).1 hv
    rw [hq] at h; injection h with h; subst h; rfl
  again b v k h := by
    injection h with h; injection h with h1 h2; subst h1; subst h2
    exact ⟨Nat.zero_le _, (hw _).2 rfl, by rw [hq]; simp⟩
  short v bs hv h j hj := by
    obtain rfl := (hw v).1 hv
    rw [hq] at h; injection h with h; subst h; simp at hj
theorem bind {p : Ps α} {q1 : α → Except Int (List UInt8)} {wf1 : α → Prop} {f : α → Ps β} {q q2 : β → Except Int (List UInt8)} {wf : β → Prop} (proj : β → α)
    (h1 : Lawful p q1 wf1) (h2 : ∀ x, wf1 x → Lawful (f x) q2 (fun v => wf v ∧ proj v = x)) (hw : ∀ v, wf v → wf1 (proj v)) (hq : ∀ v, q v = cat2 (q1 (proj v)) (q2 v)) : Lawful (Ps.bind p f) q wf where
  back v bs hv h c := by
    rw [hq] at h
    obtain ⟨b, d, e1, e2, rfl⟩ := cat2_ok h
    rw [List.append_assoc, Ps.bind_ok (h1.back _ _ (hw v hv) e1 _), List.drop_left, (h2 _ (hw v hv)).back v d ⟨hv, rfl⟩ e2 c, List.length_append]
  again b v k h := by
    unfold Ps.bind at h
    rcases e1 : p b with e | ⟨x, j⟩
    · rw [e1] at h; cases h
    · rw [e1] at h
      dsimp only at h
      rcases e2 : f x (b.drop j) with e | ⟨y, m⟩
      · rw [e2] at h; cases h
      · rw [e2] at h
        injection h with h; injection h with ha hb; subst ha; subst hb
        obtain ⟨l1, w1, k1⟩ := h1.again _ _ _ e1
        obtain ⟨l2, ⟨w2, rfl⟩, k2⟩ := (h2 x w1).again _ _ _ e2
        rw [List.length_drop] at l2
        refine ⟨by omega, w2, ?_⟩
        rw [hq, k1, k2, cat2, List.take_add]
  short v bs hv h j hj := by
    rw [hq] at h
    obtain ⟨b, d, e1, e2, rfl⟩ := cat2_ok h
    rw [List.length_append] at hj
    by_cases hb : j < b.length
    · rw [List.take_append_of_le_length (by omega), Ps.bind_error (h1.short _ _ (hw v hv) e1 j hb)]
    · have e : (b ++ d).take j = b ++ d.take (j - b.length) := by rw [List.take_append, List.take_of_length_le (by omega)]
      rw [e, Ps.bind_ok (h1.back _ _ (hw v hv) e1 _), List.drop_left, (h2 _ (hw v hv)).short v d ⟨hv, rfl⟩ e2 _ (by omega)]
theorem need {c : Bool} {e : Int} {f : Unit → Ps β} {q : β → Except Int (List UInt8)} {wf : β → Prop} (hw : ∀ v, wf v → c = true) (h : c = true → Lawful (f ()) q wf) : Lawful (Ps.bind (Ps.need c e) f) q wf := by
  cases c with
  | true =>
    have := h rfl
    have e : Ps.bind (Ps.need true e) f = f () := by
      funext b
      simp only [Ps.bind, Ps.need, if_true, List.drop_zero]
      rcases f () b with e | ⟨x, m⟩
      · rfl
      · simp
    rw [e]; exact this
  | false =>
    refine ⟨fun v _ hv => ?_, fun b v k hb => ?_, fun v _ hv => ?_⟩
    · cases hw v hv
    · simp [Ps.bind, Ps.need] at hb
    · cases hw v hv
theorem weaken {p : Ps α} {q q' : α → Except Int (List UInt8)} {wf wf' : α → Prop} (h : Lawful p q wf) (hw : ∀ v, wf v ↔ wf' v) (hq : ∀ v, wf v → q v = q' v) : Lawful p q' wf' where
  back v bs hv e := h.back v bs ((hw v).2 hv) (by rw [hq v ((hw v).2 hv)]; exact e)
  again b v k e := by obtain ⟨l, w, k1⟩ := h.again b v k e; exact ⟨l, (hw v).1 w, by rw [← hq v w]; exact k1⟩
  short v bs hv e := h.short v bs ((hw v).2 hv) (by rw [hq v ((hw v).2 hv)]; exact e)
end Lawful
/-! ### numbers, yes and no, points of time, what is told of a node -/
theorem lawful_num : Lawful pNum (fun n => .ok (put4 n)) (· < 4294967296) where
  back v bs hv h c := by
    injection h with h; subst h
    rw [pNum, if_neg (by simp), List.take_append_of_le_length (by simp), List.take_of_length_le (by simp), beN_put4, Nat.mod_eq_of_lt hv]; rfl
  again b v k h := by
    unfold pNum at h
    split at h
    · cases h
    · injection h with h; injection h with h1 h2; subst h1; subst h2
      have hl : (b.take 4).length = 4 := by simp; omega
      have := beN_lt (b.take 4)
      rw [hl] at this
      exact ⟨by omega, this, by rw [put4_beN _ hl]⟩
  short v bs hv h j hj := by
    injection h with h; subst h
    rw [pNum, if_pos]
    simp at hj ⊢; omega
theorem lawful_long : Lawful pLong (fun n => .ok (put8 n)) (· < 18446744073709551616) where
  back v bs hv h c := by
    injection h with h; subst h
    rw [pLong, if_neg (by simp), List.take_append_of_le_length (by simp), List.take_of_length_le (by simp), beN_put8, Nat.mod_eq_of_lt hv]; rfl
  again b v k h := by
    unfold pLong at h
    split at h
    · cases h
    · injection h with h; injection h with h1 h2; subst h1; subst h2
      have hl : (b.take 8).length = 8 := by simp; omega
      have := beN_lt (b.take 8)
      rw [hl] at this
      exact ⟨by omega, this, by rw [put8_beN _ hl]⟩
  short v bs hv h j hj := by
    injection h with h; subst h
    rw [pLong, if_pos]
    simp at hj ⊢; omega
theorem lawful_yes : Lawful pYes (fun y => .ok (putYes y)) (fun _ => True) where
  back v bs hv h c := by
    injection h with h; subst h
    rw [pYes, if_neg (by simp [putYes]), List.take_append_of_le_length (by simp [putYes]), List.take_of_length_le (by simp [putYes])]
    cases v <;> rfl
  again b v k h := by
    unfold pYes at h
    split at h
    · cases h
    · split at h
      · cases h
      · injection h with h; injection h with h1 h2; subst h1; subst h2
        have hl : (b.take 4).length = 4 := by simp; omega
        refine ⟨by omega, trivial, ?_⟩
        rw [putYes]
        have : (if (beN (b.take 4) == 1) = true then 1 else 0) = beN (b.take 4) := by
          split
          · simp_all
          · simp_all; omega
        rw [this, put4_beN _ hl]
  short v bs hv h j hj := by
    injection h with h; subst h
    rw [pYes, if_pos]
    simp [putYes] at hj ⊢; omega
theorem putTm_eq (t : Tm) (h : t.wf) : putTm t = put8 (t.sec * 4294967296 + t.nano) := by
  have := h.2
  rw [putTm, put8, show (t.sec * 4294967296 + t.nano) / 4294967296 = t.sec by omega]
  congr 1
  rw [← put4_mod (t.sec * 4294967296 + t.nano), show (t.sec * 4294967296 + t.nano) % 4294967296 = t.nano by omega]
theorem tm_put (t : Tm) (h : t.wf) (c : List UInt8) : tm (putTm t ++ c) 0 = t := by
  have h1 := h.1; have h2 := h.2
  have e : f8 (putTm t ++ c) 0 = t.sec * 4294967296 + t.nano := by
    rw [f8, List.drop_zero, List.take_append_of_le_length (by simp [putTm_length]), List.take_of_length_le (by simp [putTm_length]), putTm_eq t h, beN_put8]
    omega
  rw [tm, e]
  obtain ⟨s, n⟩ := t
  simp only [Tm.mk.injEq] at *
  omega
theorem lawful_time : Lawful pTime rTime Tm.wf where
  back v bs hv h c := by
    unfold rTime at h
    split at h
    · injection h with h; subst h
      rw [pTime_ok (by simp [putTm_length]) (by rw [tm_put v hv]; assumption), tm_put v hv]; rfl
    · cases h
  again b v k h := by
    unfold pTime at h
    split at h
    · cases h
    · split at h
      · injection h with h; injection h with h1 h2
        have hv : v = tm b 0 := by rw [← h1]; rfl
        subst h2
        refine ⟨by omega, by rw [hv]; exact tm_wf b 0, ?_⟩
        have hok : (tm b 0).ok = true := by simpa [Tm.ok, tm, f8] using ‹_›
        rw [hv, rTime, if_pos hok, putTm_tm (by omega)]; simp
      · cases h
  short v bs hv h j hj := by
    unfold rTime at h
    split at h
    · injection h with h; subst h
      rw [pTime, if_pos]
      simp [putTm_length] at hj ⊢; omega
    · cases h
theorem f4_app (a c : List UInt8) (i n : Nat) (hi : a.length = i) (hn : n < 4294967296) : f4 (a ++ (put4 n ++ c)) i = n := by
  subst hi
  rw [f4, List.drop_left, List.take_append_of_le_length (by simp), List.take_of_length_le (by simp), beN_put4, Nat.mod_eq_of_lt hn]
theorem f8_app (a c : List UInt8) (i n : Nat) (hi : a.length = i) (hn : n < 18446744073709551616) : f8 (a ++ (put8 n ++ c)) i = n := by
  subst hi
  rw [f8, List.drop_left, List.take_append_of_le_length (by simp), List.take_of_length_le (by simp), beN_put8, Nat.mod_eq_of_lt hn]
theorem tm_app (a c : List UInt8) (i : Nat) (t : Tm) (hi : a.length = i) (ht : t.wf) : tm (a ++ (putTm t ++ c)) i = t := by
  subst hi
  have := tm_put t ht c
  rw [tm, f8, List.drop_left]
  rw [tm, f8, List.drop_zero] at this
  exact this
theorem putAt_split (a : At) : putAt a = put4 a.kind ++ (put4 a.mode ++ (put4 a.links ++ (put4 a.user ++ (put4 a.group ++ (put8 a.size ++ (put8 a.used ++ (put8 0 ++ (put8 1 ++ (put8 a.id ++ (putTm a.read ++ (putTm a.write ++ putTm a.turn))))))))))) := by
  rw [putAt]
  have e : a.headB 5 = put4 a.kind ++ (put4 a.mode ++ (put4 a.links ++ (put4 a.user ++ (put4 a.group ++ [])))) := rfl
  rw [e]
  simp only [List.append_assoc, List.append_nil, List.nil_append]
theorem atOf_put (a : At) (ha : a.wf) (c : List UInt8) : atOf (putAt a ++ c) = a ∧ f8 (putAt a ++ c) 36 = 0 ∧ f8 (putAt a ++ c) 44 = 1 := by
  obtain ⟨h4, hs, hu, hi, hr, hw, ht⟩ := ha
  have k0 : a.kind < 4294967296 := h4 0
  have k1 : a.mode < 4294967296 := h4 1
  have k2 : a.links < 4294967296 := h4 2
  have k3 : a.user < 4294967296 := h4 3
  have k4 : a.group < 4294967296 := h4 4
  have e : putAt a ++ c = [] ++ (put4 a.kind ++ (put4 a.mode ++ (put4 a.links ++ (put4 a.user ++ (put4 a.group ++ (put8 a.size ++ (put8 a.used ++ (put8 0 ++ (put8 1 ++ (put8 a.id ++ (putTm a.read ++ (putTm a.write ++ (putTm a.turn ++ c))))))))))))) := by
    rw [putAt_split]; simp only [List.append_assoc, List.nil_append]
  have n0 := f4_app [] (put4 a.mode ++ (put4 a.links ++ (put4 a.user ++ (put4 a.group ++ (put8 a.size ++ (put8 a.used ++ (put8 0 ++ (put8 1 ++ (put8 a.id ++ (putTm a.read ++ (putTm a.write ++ (putTm a.turn ++ c)))))))))))) 0 a.kind rfl k0
  have n1 := f4_app (put4 a.kind) (put4 a.links ++ (put4 a.user ++ (put4 a.group ++ (put8 a.size ++ (put8 a.used ++ (put8 0 ++ (put8 1 ++ (put8 a.id ++ (putTm a.read ++ (putTm a.write ++ (putTm a.turn ++ c))))))))))) 4 a.mode rfl k1
  have n2 := f4_app (put4 a.kind ++ put4 a.mode) (put4 a.user ++ (put4 a.group ++ (put8 a.size ++ (put8 a.used ++ (put8 0 ++ (put8 1 ++ (put8 a.id ++ (putTm a.read ++ (putTm a.write ++ (putTm a.turn ++ c)))))))))) 8 a.links rfl k2
  have n3 := f4_app (put4 a.kind ++ (put4 a.mode ++ put4 a.links)) (put4 a.group ++ (put8 a.size ++ (put8 a.used ++ (put8 0 ++ (put8 1 ++ (put8 a.id ++ (putTm a.read ++ (putTm a.write ++ (putTm a.turn ++ c))))))))) 12 a.user rfl k3
  have n4 := f4_app (put4 a.kind ++ (put4 a.mode ++ (put4 a.links ++ put4 a.user))) (put8 a.size ++ (put8 a.used ++ (put8 0 ++ (put8 1 ++ (put8 a.id ++ (putTm a.read ++ (putTm a.write ++ (putTm a.turn ++ c)))))))) 16 a.group rfl k4
  have n5 := f8_app (put4 a.kind ++ (put4 a.mode ++ (put4 a.links ++ (put4 a.user ++ put4 a.group)))) (put8 a.used ++ (put8 0 ++ (put8 1 ++ (put8 a.id ++ (putTm a.read ++ (putTm a.write ++ (putTm a.turn ++ c))))))) 20 a.size rfl hs
  have n6 := f8_app (put4 a.kind ++ (put4 a.mode ++ (put4 a.links ++ (put4 a.user ++ (put4 a.group ++ put8 a.size))))) (put8 0 ++ (put8 1 ++ (put8 a.id ++ (putTm a.read ++ (putTm a.write ++ (putTm a.turn ++ c)))))) 28 a.used rfl hu
  have n7 := f8_app (put4 a.kind ++ (put4 a.mode ++ (put4 a.links ++ (put4 a.user ++ (put4 a.group ++ (put8 a.size ++ put8 a.used)))))) (put8 1 ++ (put8 a.id ++ (putTm a.read ++ (putTm a.write ++ (putTm a.turn ++ c))))) 36 0 rfl (by decide)
  have n8 := f8_app (put4 a.kind ++ (put4 a.mode ++ (put4 a.links ++ (put4 a.user ++ (put4 a.group ++ (put8 a.size ++ (put8 a.used ++ put8 0))))))) (put8 a.id ++ (putTm a.read ++ (putTm a.write ++ (putTm a.turn ++ c)))) 44 1 rfl (by decide)
  have n9 := f8_app (put4 a.kind ++ (put4 a.mode ++ (put4 a.links ++ (put4 a.user ++ (put4 a.group ++ (put8 a.size ++ (put8 a.used ++ (put8 0 ++ put8 1)))))))) (putTm a.read ++ (putTm a.write ++ (putTm a.turn ++ c))) 52 a.id rfl hi
  have n10 := tm_app (put4 a.kind ++ (put4 a.mode ++ (put4 a.links ++ (put4 a.user ++ (put4 a.group ++ (put8 a.size ++ (put8 a.used ++ (put8 0 ++ (put8 1 ++ put8 a.id))))))))) (putTm a.write ++ (putTm a.turn ++ c)) 60 a.read rfl hr
  have n11 := tm_app (put4 a.kind ++ (put4 a.mode ++ (put4 a.links ++ (put4 a.user ++ (put4 a.group ++ (put8 a.size ++ (put8 a.used ++ (put8 0 ++ (put8 1 ++ (put8 a.id ++ putTm a.read)))))))))) (putTm a.turn ++ c) 68 a.write rfl hw
  have n12 := tm_app (put4 a.kind ++ (put4 a.mode ++ (put4 a.links ++ (put4 a.user ++ (put4 a.group ++ (put8 a.size ++ (put8 a.used ++ (put8 0 ++ (put8 1 ++ (put8 a.id ++ (putTm a.read ++ putTm a.write))))))))))) c 76 a.turn rfl ht
  simp only [List.append_assoc, List.nil_append] at n0 n1 n2 n3 n4 n5 n6 n7 n8 n9 n10 n11 n12 e
  rw [e]
  refine ⟨?_, n7, n8⟩
  rw [atOf, n0, n1, n2, n3, n4, n5, n6, n9, n10, n11, n12]
theorem lawful_at : Lawful pAttrs rTold At.wf where
  back v bs hv h c := by
    rw [rTold_eq] at h
    split at h
    · injection h with h; subst h
      obtain ⟨h1, h2, h3⟩ := atOf_put v hv c
      rw [pAttrs, if_neg (by simp [putAt_length]), if_pos, h1, putAt_length]
      rw [atMay_eq, h1, h2, h3]; simpa
    · cases h
  again b v k h := by
    unfold pAttrs at h
    split at h
    · cases h
    · split at h
      · injection h with h; injection h with h1 h2; subst h1; subst h2
        have hm := ‹atMay b = true›
        rw [atMay_eq] at hm
        simp only [Bool.and_eq_true, beq_iff_eq] at hm
        refine ⟨by omega, atOf_wf b, ?_⟩
        rw [rTold_eq, if_pos hm.1, (putAt_atOf (by omega)).2 hm.2]
      · cases h
  short v bs hv h j hj := by
    rw [rTold_eq] at h
    split at h
    · injection h with h; subst h
      rw [pAttrs, if_pos]
      simp [putAt_length] at hj ⊢; omega
    · cases h
/-! ### how a time is set; what is had; what is to be set; what was told ahead and behind -/
theorem lawful_how : Lawful pHow (fun x => rHow x.1 x.2) (fun x => x.1 < 4294967296 ∧ x.2.wf) := by
  refine (Lawful.bind (q := fun x => if (decide (x.1 ≤ 2) && (x.1 == 2 || x.2 == ⟨0, 0⟩)) = false then .error 1 else cat2 (.ok (put4 x.1)) (if x.1 = 2 then rTime x.2 else .ok [])) (q1 := fun n => .ok (put4 n)) (wf1 := (· < 4294967296)) (q2 := fun x => if (decide (x.1 ≤ 2) && (x.1 == 2 || x.2 == ⟨0, 0⟩)) = false then .error 1 else if x.1 = 2 then rTime x.2 else .ok []) (fun x => x.1) lawful_num (fun n hn => ?_) (fun v hv => hv.1) (fun v => ?_)).weaken (fun v => Iff.rfl) (fun v hv => ?_)
  · by_cases hn2 : n ≤ 2
    · refine Lawful.need (fun _ _ => by simpa using hn2) fun _ => ?_
      by_cases h2 : n = 2
      · subst h2
        rw [if_pos rfl]
        refine (Lawful.bind (q := fun x => cat2 (rTime x.2) (.ok [])) (q2 := fun _ => .ok []) (fun x => x.2) lawful_time (fun t ht => Lawful.pure (fun v => ?_) rfl) (fun v hv => hv.1.2) (fun v => rfl)).weaken (fun v => Iff.rfl) (fun v hv => ?_)
        · constructor
          · rintro ⟨⟨_, h1⟩, h2⟩; exact Prod.ext h1 h2
          · rintro rfl; exact ⟨⟨⟨hn, ht⟩, rfl⟩, rfl⟩
        · rw [hv.2]
          cases rTime v.2 with
          | error e => simp [cat2]
          | ok b => simp [cat2]
      · rw [if_neg h2]
        refine ⟨fun v bs hv h c => ?_, fun b v k h => ?_, fun v bs hv h j hj => ?_⟩
        · obtain ⟨⟨_, _⟩, rfl⟩ := hv
          obtain ⟨m, t⟩ := v
          simp only [h2, if_false] at h
          split at h
          · cases h
          · injection h with h; subst h
            rename_i hz
            have : (m == 2 || t == ⟨0, 0⟩) = true := by
              simp only [Bool.not_eq_false, Bool.and_eq_true] at hz; exact hz.2
            have : t = ⟨0, 0⟩ := by simpa [h2] using this
            subst this; rfl
        · injection h with h; injection h with h1 h3; subst h1; subst h3
          refine ⟨Nat.zero_le _, ⟨⟨hn, by simp [Tm.wf]⟩, rfl⟩, ?_⟩
          simp [h2, hn2]
        · obtain ⟨⟨_, _⟩, rfl⟩ := hv
          simp only [h2, if_false] at h
          split at h
          · cases h
          · injection h with h; subst h; simp at hj
    · refine ⟨fun v bs hv h c => ?_, fun b v k h => ?_, fun v bs hv h j hj => ?_⟩
      · obtain ⟨_, rfl⟩ := hv
        simp [hn2] at h
      · simp [Ps.bind, Ps.need, hn2] at h
      · obtain ⟨_, rfl⟩ := hv
        simp [hn2] at h
  · split
    · rfl
    · rfl
  · dsimp only [rHow]
    split
    · rfl
    · split
      · rw [catP_cons, catP_one]
      · simp [cat2]
theorem lawful_mode : Lawful pMode (fun n => .ok (put4 n)) (· ≤ 4095) := by
  refine (Lawful.bind (q := fun n => cat2 (.ok (put4 n)) (.ok [])) (q2 := fun _ => .ok []) (wf := fun n => n ≤ 4095) (fun n => n) lawful_num (fun n hn => Lawful.need (fun v hv => by obtain ⟨h1, rfl⟩ := hv; simpa using h1) fun h => Lawful.pure (q := fun _ => .ok []) (fun v => ?_) rfl) (fun v hv => by omega) (fun v => rfl)).weaken (fun v => Iff.rfl) (fun v hv => by simp [cat2])
  have : n ≤ 4095 := by simpa using h
  constructor
  · rintro ⟨_, rfl⟩; rfl
  · rintro rfl; exact ⟨this, rfl⟩
theorem lawful_had {α : Type} [DecidableEq α] {p : Ps α} {q : α → Except Int (List UInt8)} {wf : α → Prop} {z : α} {zb : α → Bool} (h : Lawful p q wf) (hz : wf z) (hzb : ∀ x, wf x → (zb x = true ↔ x = z)) :
    Lawful (pHad p z) (fun x => rOpt x.2 (zb x.1) [q x.1]) (fun x => wf x.1) := by
  refine (Lawful.bind (q := fun x : α × Bool => if (x.2 || zb x.1) = false then .error 1 else cat2 (.ok (putYes x.2)) (if x.2 = false then .ok [] else q x.1)) (q2 := fun x => if (x.2 || zb x.1) = false then .error 1 else if x.2 = false then .ok [] else q x.1) (wf := fun x => wf x.1) (fun x => x.2) lawful_yes (fun y _ => ?_) (fun v hv => trivial) (fun v => ?_)).weaken (fun v => Iff.rfl) (fun v hv => ?_)
  · cases y with
    | true =>
      simp only [if_true]
      refine (Lawful.bind (q := fun x : α × Bool => cat2 (q x.1) (.ok [])) (q2 := fun _ => .ok []) (fun x => x.1) h (fun t ht => Lawful.pure (fun v => ?_) rfl) (fun v hv => hv.1) (fun v => rfl)).weaken (fun v => Iff.rfl) (fun v hv => ?_)
      · constructor
        · rintro ⟨⟨_, h1⟩, h2⟩; exact Prod.ext h2 h1
        · rintro rfl; exact ⟨⟨ht, rfl⟩, rfl⟩
      · rw [hv.2]
        cases q v.1 with
        | error e => simp [cat2]
        | ok b => simp [cat2]
    | false =>
      simp only [Bool.false_eq_true, if_false]
      refine ⟨fun v bs hv h c => ?_, fun b v k h => ?_, fun v bs hv h j hj => ?_⟩
      · obtain ⟨hv1, hv2⟩ := hv
        obtain ⟨x, y⟩ := v
        dsimp only at hv1 hv2 h; subst hv2
        split at h
        · cases h
        · rename_i hh
          injection h with h; subst h
          have : zb x = true := by simpa using hh
          rw [(hzb x hv1).1 this]; rfl
      · injection h with h; injection h with h1 h3; subst h1; subst h3
        refine ⟨Nat.zero_le _, ⟨hz, rfl⟩, ?_⟩
        have : zb z = true := (hzb z hz).2 rfl
        simp [this]
      · obtain ⟨hv1, hv2⟩ := hv
        obtain ⟨x, y⟩ := v
        dsimp only at hv1 hv2 h; subst hv2
        split at h
        · cases h
        · injection h with h; subst h; simp at hj
  · split
    · rfl
    · rfl
  · obtain ⟨x, y⟩ := v
    dsimp only [rOpt]
    split
    · rfl
    · cases y with
      | false => simp [cat2]
      | true => rw [catP_one]; cases q x <;> rfl
end Go.Proofs.YtgmhapjidbdhnaaGreat
namespace Go.Proofs.YtgmhapjidbdhnaaGreat
open Go.RowKit
theorem lawful_had4 : Lawful (pHad pNum 0) (fun x => rOpt x.2 ((x.1 : Int) == 0) [.ok (put4 x.1)]) (fun x => x.1 < 4294967296) :=
  lawful_had (z := 0) (α := Nat) (zb := fun n : Nat => (n : Int) == 0) (wf := fun n => n < 4294967296) lawful_num (by decide) (fun x hx => by simp)
theorem lawful_had8 : Lawful (pHad pLong 0) (fun x => rOpt x.2 ((x.1 : Int) == 0) [.ok (put8 x.1)]) (fun x => x.1 < 18446744073709551616) :=
  lawful_had (z := 0) (α := Nat) (zb := fun n : Nat => (n : Int) == 0) (wf := fun n => n < 18446744073709551616) lawful_long (by decide) (fun x hx => by simp)
theorem lawful_hadM : Lawful (pHad pMode 0) (fun x => rOpt x.2 ((x.1 : Int) == 0) [.ok (put4 x.1)]) (fun x => x.1 ≤ 4095) :=
  lawful_had (z := 0) (α := Nat) (zb := fun n : Nat => (n : Int) == 0) (wf := fun n => n ≤ 4095) lawful_mode (by decide) (fun x hx => by simp)
theorem lawful_set0 : Lawful pSet (fun s => catP (setL s)) (fun s => s.wf ∧ s.mode ≤ 4095) := by
  unfold pSet
  refine Lawful.bind (q2 := fun s => catP (setL s).tail) (fun s => (s.mode, s.hasMode)) lawful_hadM (fun m hm => ?_) (fun v hv => hv.2) (fun v => by rw [setL, catP_cons]; rfl)
  refine Lawful.bind (q2 := fun s => catP (setL s).tail.tail) (fun s => (s.user, s.hasUser)) lawful_had4 (fun u hu => ?_) (fun v hv => hv.1.1.2.1) (fun v => by rw [setL, List.tail_cons, catP_cons]; rfl)
  refine Lawful.bind (q2 := fun s => catP (setL s).tail.tail.tail) (fun s => (s.group, s.hasGroup)) lawful_had4 (fun g hg => ?_) (fun v hv => hv.1.1.1.2.2.1) (fun v => by rw [setL, List.tail_cons, List.tail_cons, catP_cons]; rfl)
  refine Lawful.bind (q2 := fun s => catP (setL s).tail.tail.tail.tail) (fun s => (s.size, s.hasSize)) lawful_had8 (fun z hz => ?_) (fun v hv => hv.1.1.1.1.2.2.2.1) (fun v => by rw [setL, List.tail_cons, List.tail_cons, List.tail_cons, catP_cons]; rfl)
  refine Lawful.bind (q2 := fun s => catP (setL s).tail.tail.tail.tail.tail) (fun s => (s.readHow, s.read)) lawful_how (fun r hr => ?_) (fun v hv => ⟨hv.1.1.1.1.1.2.2.2.2.1, hv.1.1.1.1.1.2.2.2.2.2.1⟩) (fun v => by rw [setL, List.tail_cons, List.tail_cons, List.tail_cons, List.tail_cons, catP_cons]; rfl)
  refine Lawful.bind (q2 := fun s => catP (setL s).tail.tail.tail.tail.tail.tail) (fun s => (s.writeHow, s.write)) lawful_how (fun w hw => ?_) (fun v hv => ⟨hv.1.1.1.1.1.1.2.2.2.2.2.2.1, hv.1.1.1.1.1.1.2.2.2.2.2.2.2⟩) (fun v => by rw [setL, List.tail_cons, List.tail_cons, List.tail_cons, List.tail_cons, List.tail_cons, catP_cons]; rfl)
  refine Lawful.pure (fun v => ⟨?_, ?_⟩) rfl
  · rintro ⟨⟨⟨⟨⟨⟨_, rfl⟩, rfl⟩, rfl⟩, rfl⟩, rfl⟩, rfl⟩
    rfl
  · rintro rfl
    exact ⟨⟨⟨⟨⟨⟨⟨⟨by have := hm; dsimp only at this ⊢; omega, hu, hg, hz, hr.1, hr.2, hw.1, hw.2⟩, hm⟩, rfl⟩, rfl⟩, rfl⟩, rfl⟩, rfl⟩, rfl⟩
theorem lawful_set : Lawful pSet rSet St.wf where
  back v bs hv h c := by
    unfold rSet at h
    split at h
    · exact lawful_set0.back v bs ⟨hv, ‹_›⟩ h c
    · cases h
  again b v k h := by
    obtain ⟨l, w, q⟩ := lawful_set0.again b v k h
    exact ⟨l, w.1, by rw [rSet, if_pos w.2]; exact q⟩
  short v bs hv h j hj := by
    unfold rSet at h
    split at h
    · exact lawful_set0.short v bs ⟨hv, ‹_›⟩ h j hj
    · cases h
/-- What was told ahead. -/
theorem lawful_before0 : Lawful pBefore (fun x => catP [.ok (put8 x.1), rTime x.2.1, rTime x.2.2]) (fun x => x.1 < 18446744073709551616 ∧ x.2.1.wf ∧ x.2.2.wf) := by
  unfold pBefore
  refine Lawful.bind (q2 := fun x => catP [rTime x.2.1, rTime x.2.2]) (fun x => x.1) lawful_long (fun s hs => ?_) (fun v hv => hv.1) (fun v => catP_cons _ _)
  refine Lawful.bind (q2 := fun x => catP [rTime x.2.2]) (fun x => x.2.1) lawful_time (fun u hu => ?_) (fun v hv => hv.1.2.1) (fun v => catP_cons _ _)
  refine Lawful.bind (q2 := fun x => catP []) (fun x => x.2.2) lawful_time (fun t ht => ?_) (fun v hv => hv.1.1.2.2) (fun v => catP_cons _ _)
  refine Lawful.pure (fun v => ⟨?_, ?_⟩) rfl
  · rintro ⟨⟨⟨_, rfl⟩, rfl⟩, rfl⟩; rfl
  · rintro rfl; exact ⟨⟨⟨⟨hs, hu, ht⟩, rfl⟩, rfl⟩, rfl⟩
theorem rOpt_parts (has zero : Bool) (rs : List (Except Int (List UInt8))) : rOpt has zero rs = rOpt has zero [catP rs] := by
  unfold rOpt; rw [catP_one]
theorem lawful_before : Lawful (pHad pBefore (0, ⟨0, 0⟩, ⟨0, 0⟩)) (fun x => rOpt x.2 (decide (x.1.1 = 0 ∧ x.1.2.1.sec = 0 ∧ x.1.2.1.nano = 0 ∧ x.1.2.2.sec = 0 ∧ x.1.2.2.nano = 0)) [.ok (put8 x.1.1), rTime x.1.2.1, rTime x.1.2.2]) (fun x => x.1.1 < 18446744073709551616 ∧ x.1.2.1.wf ∧ x.1.2.2.wf) :=
  (lawful_had (z := (0, ⟨0, 0⟩, ⟨0, 0⟩)) (zb := fun x => decide (x.1 = 0 ∧ x.2.1.sec = 0 ∧ x.2.1.nano = 0 ∧ x.2.2.sec = 0 ∧ x.2.2.nano = 0)) lawful_before0 ⟨by decide, ⟨by decide, by decide⟩, ⟨by decide, by decide⟩⟩ (fun x hx => by
    obtain ⟨s, ⟨u1, u2⟩, ⟨t1, t2⟩⟩ := x
    simp only [decide_eq_true_eq, Prod.mk.injEq, Tm.mk.injEq]
    exact ⟨fun h => ⟨h.1, ⟨h.2.1, h.2.2.1⟩, h.2.2.2.1, h.2.2.2.2⟩, fun h => ⟨h.1, h.2.1.1, h.2.1.2, h.2.2.1, h.2.2.2⟩⟩)).weaken (fun v => Iff.rfl) (fun v hv => (rOpt_parts _ _ _).symm)
theorem zeroA_wf' : At.zero.wf := by
  refine ⟨fun k => ?_, by decide, by decide, by decide, ⟨by decide, by decide⟩, ⟨by decide, by decide⟩, ⟨by decide, by decide⟩⟩
  match k with
  | 0 => decide
  | 1 => decide
  | 2 => decide
  | 3 => decide
  | 4 => decide
  | k + 5 => simp [At.head]
theorem lawful_after : Lawful (pHad pAttrs At.zero) (fun x => rOpt x.2 (x.1 == At.zero) [rTold x.1]) (fun x => x.1.wf) :=
  lawful_had (z := At.zero) (zb := fun a => a == At.zero) lawful_at zeroA_wf' (fun x hx => by simp)
theorem lawful_weak : Lawful pWeak (fun k => catP (weakL k)) Wk.wf := by
  unfold pWeak
  refine Lawful.bind (q2 := fun k => catP (weakL k).tail) (fun k => ((k.size, k.write, k.turn), k.hasBefore)) lawful_before (fun b hb => ?_) (fun v hv => ⟨hv.1, hv.2.1, hv.2.2.1⟩) (fun v => by rw [weakL, catP_cons]; rfl)
  refine Lawful.bind (q2 := fun k => catP (weakL k).tail.tail) (fun k => (k.after, k.hasAfter)) lawful_after (fun a ha => ?_) (fun v hv => hv.1.2.2.2) (fun v => by rw [weakL, List.tail_cons, catP_cons]; rfl)
  refine Lawful.pure (fun v => ⟨?_, ?_⟩) rfl
  · rintro ⟨⟨_, rfl⟩, rfl⟩; rfl
  · rintro rfl; exact ⟨⟨⟨hb.1, hb.2.1, hb.2.2, ha⟩, rfl⟩, rfl⟩
end Go.Proofs.YtgmhapjidbdhnaaGreat
namespace Go.Proofs.YtgmhapjidbdhnaaGreat
open Go.RowKit
def padN (n : Nat) : Nat := (4 - n % 4) % 4
theorem padN_mod (n : Nat) : (n + padN n) % 4 = 0 := by unfold padN; omega
/-- So many bytes, filled up with zeros. -/
def pCut (n : Nat) : Ps (List UInt8) := fun b => if b.length < n + padN n then .error 4 else if ((b.drop n).take (padN n)) = List.replicate (padN n) 0 then .ok (b.take n, n + padN n) else .error 5
def qCut (x : List UInt8) : List UInt8 := x ++ List.replicate (padN x.length) 0
theorem qCut_length (x : List UInt8) : (qCut x).length = x.length + padN x.length := by simp [qCut]
theorem lawful_cut (n : Nat) : Lawful (pCut n) (fun x => .ok (qCut x)) (fun x => x.length = n) where
  back v bs hv h c := by
    injection h with h; subst h
    subst hv
    have e1 : (qCut v ++ c).take v.length = v := by rw [qCut, List.append_assoc, List.take_left]
    have e2 : (qCut v ++ c).drop v.length = List.replicate (padN v.length) 0 ++ c := by rw [qCut, List.append_assoc, List.drop_left]
    have e3 : ((List.replicate (padN v.length) (0 : UInt8)) ++ c).take (padN v.length) = List.replicate (padN v.length) 0 := by
      rw [List.take_append_of_le_length (by simp), List.take_of_length_le (by simp)]
    rw [pCut, if_neg (by rw [List.length_append, qCut_length]; omega), e1, e2, e3, if_pos rfl, qCut_length]
  again b v k h := by
    unfold pCut at h
    split at h
    · cases h
    · rename_i hl
      split at h
      · rename_i hz
        injection h with h; injection h with h1 h2; subst h1; subst h2
        have hl2 : (b.take n).length = n := by rw [List.length_take]; omega
        refine ⟨by omega, hl2, ?_⟩
        rw [qCut, hl2, ← hz, List.take_add]
      · cases h
  short v bs hv h j hj := by
    injection h with h; subst h
    subst hv
    rw [qCut_length] at hj
    rw [pCut, if_pos (by rw [List.length_take, qCut_length]; omega)]
/-- Bytes, with how many they are ahead, at most so many. -/
def pOpq (most : Nat) : Ps (List UInt8) := Ps.bind pNum fun n => Ps.bind (Ps.need (decide (n ≤ most)) 3) fun _ => pCut n
def qOpq (most : Nat) (x : List UInt8) : Except Int (List UInt8) := if x.length ≤ most then .ok (put4 x.length ++ qCut x) else .error 1
theorem lawful_opq (most : Nat) (hm : most < 4294967296) : Lawful (pOpq most) (qOpq most) (fun x => x.length ≤ most) := by
  have h0 : Lawful (pOpq most) (fun x => cat2 (.ok (put4 x.length)) (.ok (qCut x))) (fun x => x.length ≤ most) := by
    refine Lawful.bind (q2 := fun x => .ok (qCut x)) List.length lawful_num (fun n hn => ?_) (fun v hv => by omega) (fun v => rfl)
    refine Lawful.need (fun v hv => by rw [← hv.2]; exact decide_eq_true hv.1) (fun hc => ?_)
    have hn := of_decide_eq_true hc
    exact (lawful_cut n).weaken (fun v => ⟨fun h => ⟨by omega, h⟩, fun h => h.2⟩) (fun v hv => rfl)
  exact h0.weaken (fun v => Iff.rfl) (fun v hv => by rw [qOpq, if_pos hv, cat2])
/-- Eight bytes. -/
def pVerf : Ps (List UInt8) := pCut 8
def qVerf (x : List UInt8) : Except Int (List UInt8) := .ok x
theorem lawful_verf : Lawful pVerf qVerf (fun x => x.length = 8) :=
  (lawful_cut 8).weaken (fun v => Iff.rfl) (fun v hv => by
    have e : padN v.length = 0 := by rw [hv]; rfl
    rw [qVerf, qCut, e, List.replicate_zero, List.append_nil])
/-- What a procedure is asked. -/
structure Ar where
  proc : Nat
  h : List UInt8
  name : List UInt8
  h2 : List UInt8
  name2 : List UInt8
  set : St
  hasGuard : Bool
  guard : Tm
  bits : Nat
  offset : Nat
  count : Nat
  max : Nat
  stable : Nat
  data : List UInt8
  target : List UInt8
  how : Nat
  kind : Nat
  verf : List UInt8
  cookie : Nat
  deriving DecidableEq
def Ar.zero (p : Nat) : Ar := ⟨p, [], [], [], [], St.zero, false, ⟨0, 0⟩, 0, 0, 0, 0, 0, [], [], 0, 0, List.replicate 8 0, 0⟩
/-- A part: how it is read into what is asked, and how it is written of it. -/
structure Pt where
  rd : Ar → Ps Ar
  wr : Ar → Except Int (List UInt8)
def fieldP {α : Type} (p : Ps α) (q : α → Except Int (List UInt8)) (get : Ar → α) (set : α → Ar → Ar) : Pt := ⟨fun m => Ps.bind p fun v => Ps.pure (set v m), fun a => q (get a)⟩
def seqR : List Pt → Ar → Ps Ar
  | [], m => Ps.pure m
  | p :: l, m => Ps.bind (p.rd m) (seqR l)
def seqW (l : List Pt) (a : Ar) : Except Int (List UInt8) := catP (l.map fun p => p.wr a)
def q4 (n : Nat) : Except Int (List UInt8) := .ok (put4 n)
def q8 (n : Nat) : Except Int (List UInt8) := .ok (put8 n)
def pSmall (most : Nat) : Ps Nat := Ps.bind pNum fun n => Ps.bind (Ps.need (decide (n ≤ most)) 5) fun _ => Ps.pure n
def qSmall (most n : Nat) : Except Int (List UInt8) := if n ≤ most then .ok (put4 n) else .error 1
theorem lawful_small (most : Nat) (hm : most < 4294967296) : Lawful (pSmall most) (qSmall most) (· ≤ most) := by
  have h0 : Lawful (pSmall most) (fun n => cat2 (.ok (put4 n)) (.ok [])) (· ≤ most) := by
    refine Lawful.bind (q2 := fun x => .ok []) (fun n => n) lawful_num (fun n hn => ?_) (fun v hv => by omega) (fun v => rfl)
    refine Lawful.need (fun v hv => by rw [← hv.2]; exact decide_eq_true hv.1) (fun hc => ?_)
    have hn := of_decide_eq_true hc
    exact Lawful.pure (fun v => ⟨fun h => h.2, fun h => by subst h; exact ⟨hn, rfl⟩⟩) rfl
  exact h0.weaken (fun v => Iff.rfl) (fun v hv => by rw [qSmall, if_pos hv, cat2, List.append_nil])
def ifP (c : Ar → Bool) (l : List Pt) : Pt := ⟨fun m => if c m then seqR l m else Ps.pure m, fun a => if c a then seqW l a else .ok []⟩
def ptH : Pt := fieldP (pOpq 64) (qOpq 64) Ar.h fun v m => {m with h := v}
def ptH2 : Pt := fieldP (pOpq 64) (qOpq 64) Ar.h2 fun v m => {m with h2 := v}
def ptName : Pt := fieldP (pOpq 1024) (qOpq 1024) Ar.name fun v m => {m with name := v}
def ptName2 : Pt := fieldP (pOpq 1024) (qOpq 1024) Ar.name2 fun v m => {m with name2 := v}
def ptTarget : Pt := fieldP (pOpq 1024) (qOpq 1024) Ar.target fun v m => {m with target := v}
def ptData : Pt := fieldP (pOpq 32768) (qOpq 32768) Ar.data fun v m => {m with data := v}
def ptSet : Pt := fieldP pSet rSet Ar.set fun v m => {m with set := v}
def ptOffset : Pt := fieldP pLong q8 Ar.offset fun v m => {m with offset := v}
def ptCookie : Pt := fieldP pLong q8 Ar.cookie fun v m => {m with cookie := v}
def ptCount : Pt := fieldP pNum q4 Ar.count fun v m => {m with count := v}
def ptBits : Pt := fieldP pNum q4 Ar.bits fun v m => {m with bits := v}
def ptMax : Pt := fieldP pNum q4 Ar.max fun v m => {m with max := v}
def ptKind : Pt := fieldP pNum q4 Ar.kind fun v m => {m with kind := v}
def ptVerf : Pt := fieldP pVerf qVerf Ar.verf fun v m => {m with verf := v}
def ptGuard : Pt := fieldP pTime rTime Ar.guard fun v m => {m with guard := v}
def ptYes : Pt := fieldP pYes (fun y => .ok (putYes y)) Ar.hasGuard fun v m => {m with hasGuard := v}
def ptStable : Pt := fieldP (pSmall 2) (qSmall 2) Ar.stable fun v m => {m with stable := v}
def ptHow : Pt := fieldP (pSmall 2) (qSmall 2) Ar.how fun v m => {m with how := v}
def partsOf : Nat → List Pt
  | 0 => []
  | 1 => [ptH]
  | 2 => [ptH, ptSet, ptYes, ifP Ar.hasGuard [ptGuard]]
  | 3 => [ptH, ptName]
  | 4 => [ptH, ptBits]
  | 5 => [ptH]
  | 6 => [ptH, ptOffset, ptCount]
  | 7 => [ptH, ptOffset, ptCount, ptStable, ptData]
  | 8 => [ptH, ptName, ptHow, ifP (fun a => a.how == 2) [ptVerf], ifP (fun a => a.how != 2) [ptSet]]
  | 9 => [ptH, ptName, ptSet]
  | 10 => [ptH, ptName, ptSet, ptTarget]
  | 11 => [ptH, ptName, ptKind, ifP (fun a => a.kind == 3 || (a.kind == 4 || (a.kind == 6 || a.kind == 7))) [ptSet], ifP (fun a => a.kind == 3 || a.kind == 4) [ptOffset]]
  | 12 => [ptH, ptName]
  | 13 => [ptH, ptName]
  | 14 => [ptH, ptName, ptH2, ptName2]
  | 15 => [ptH, ptH2, ptName2]
  | 16 => [ptH, ptCookie, ptVerf, ptCount]
  | 17 => [ptH, ptCookie, ptVerf, ptCount, ptMax]
  | 18 => [ptH]
  | 19 => [ptH]
  | 20 => [ptH]
  | 21 => [ptH, ptOffset, ptCount]
  | _ => []
def getA (p : Nat) (xs : List UInt8) : Except Int Ar :=
  if 21 < p then .error 1 else match seqR (partsOf p) (Ar.zero p) xs with | .error e => .error e | .ok (m, k) => if k = xs.length then .ok m else .error 5
def putA (a : Ar) : Except Int (List UInt8) :=
  if 21 < a.proc then .error 1 else match seqW (partsOf a.proc) a with | .error _ => .error 1 | .ok bs => match getA a.proc bs with | .error _ => .error 1 | .ok x => if x = a then .ok bs else .error 1
end Go.Proofs.YtgmhapjidbdhnaaGreat

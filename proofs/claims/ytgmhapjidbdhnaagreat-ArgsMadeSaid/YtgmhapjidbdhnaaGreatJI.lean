/- What is put is got, of the same procedure; of fewer bytes nothing is, nor of more; what is got is put as it was. No program in sight. -/
import Derived.Test.YtgmhapjidbdhnaaGreatJH
import Derived.Test.YtgmhapjidbdhnaaGreatJG
import Derived.Maps.AppendAt
import Derived.Laws.EntriesVeiled
import Derived.Deep.QuietTactic
import Derived.BigQuiet
set_option linter.unusedVariables false
set_option linter.unusedSimpArgs false
namespace Go.Proofs.YtgmhapjidbdhnaaGreat
open Go.RowKit
variable {σ α : Type}
/-- Parts, one behind the other, read. -/
def seqP : List (σ → Ps σ) → σ → Ps σ
  | [], m => Ps.pure m
  | p :: l, m => Ps.bind (p m) (seqP l)
/-- Parts, one behind the other, written. -/
def seqQ (l : List (σ → Except Int (List UInt8))) (s : σ) : Except Int (List UInt8) := catP (l.map fun q => q s)
/-- Where the reading stands behind a part. -/
def RdTo (r : Except Int (σ × Nat)) (n k : Nat) (s' : σ) (k' : Nat) (e' : Int) : Prop :=
  (∃ j, r = .ok (s', j) ∧ k' = k + j ∧ k' ≤ n ∧ e' = 0) ∨ (r = .error e' ∧ e' ≠ 0)
/-- A state of memory that parts read into. -/
structure RepR (Rep : World → σ → Prop) (R : Nat) (P : Nat → Prop) : Prop where
  inR : P R
  frR : ∀ w w' s, Rep w s → Only (· = R) w w' → Rep w' s
  old : ∀ w s, Rep w s → ∀ i, P i → i ≠ R → i < w.heap.size
/-- A part, when it reads. -/
structure RdPart (Rep : World → σ → Prop) (R : Nat) (P : Nat → Prop) (w0 : World) (f : Nat) (cap : Array Value) (rd : σ → Ps σ) : Prop where
  fn : Enters Tryz.prog f
  skip : ∀ w s v k e, Only P w0 w → Rep w s → e ≠ 0 → OwnL w R (roadC v k true e) →
    Calls Tryz.prog f (#[.pointer (some ⟨R, 0, none⟩)] ++ cap) w fun en w' => en = .returned (.tuple #[]) ∧ Only P w w' ∧ OwnL w' R (roadC v k true e) ∧ ∃ s', Rep w' s'
  go : ∀ w s v k xs, Only P w0 w → Rep w s → OwnL w R (roadC v k true 0) → Rd w v xs → (∀ g, Value.inBlock v = some g → ¬ P g) → k ≤ xs.length → xs.length ≤ 1000000000 →
    Calls Tryz.prog f (#[.pointer (some ⟨R, 0, none⟩)] ++ cap) w fun en w' => en = .returned (.tuple #[]) ∧ Only P w w' ∧ ∃ s' k' e', OwnL w' R (roadC v k' true e') ∧ Rep w' s' ∧ RdTo (rd s (xs.drop k)) xs.length k s' k' e'
/-- What writing a part changes: the road, and the block of what was written so far. -/
def Wv (R : Nat) (v : Value) : Nat → Prop := fun i => i = R ∨ v.ownBlock = some i
/-- What was written so far lies where a part cares for nothing. -/
def AccIn (R : Nat) (Q : Nat → Prop) (w0 : World) (v : Value) : Prop := ∀ g, v.ownBlock = some g → g ≠ R ∧ (Q g ∨ w0.heap.size ≤ g)
/-- Bytes that were added to lie where they lay, or in a new block. -/
def Own2 (w : World) (v v' : Value) : Prop := v'.ownBlock = v.ownBlock ∨ ∀ g, v'.ownBlock = some g → w.heap.size ≤ g
theorem Own2.refl (w : World) (v : Value) : Own2 w v v := .inl rfl
theorem Own2.trans {w w1 : World} {v v1 v2 : Value} (h : Own2 w v v1) (hs : w.heap.size ≤ w1.heap.size) (k : Own2 w1 v1 v2) : Own2 w v v2 := by
  rcases k with k | k
  · rcases h with h | h
    · exact .inl (k.trans h)
    · exact .inr fun g hg => h g (by rw [← k]; exact hg)
  · exact .inr fun g hg => Nat.le_trans hs (k g hg)
theorem AccIn.next {R : Nat} {Q : Nat → Prop} {w0 w : World} {v v' : Value} (h : AccIn R Q w0 v) (hs : w0.heap.size ≤ w.heap.size) (hR : R < w.heap.size) (k : Own2 w v v') : AccIn R Q w0 v' := fun g hg => by
  rcases k with k | k
  · exact h g (by rw [← k]; exact hg)
  · have := k g hg
    exact ⟨by omega, .inr (by omega)⟩
theorem Only.toQ {R : Nat} {Q : Nat → Prop} {w0 w w' : World} {v : Value} (ho : Only Q w0 w) (h : Only (Wv R v) w w') (hR : Q R) (ha : AccIn R Q w0 v) : Only Q w0 w' :=
  ho.then_ h fun i hi hw => by
    rcases hw with rfl | hw
    · exact hR
    · rcases (ha i hw).2 with h | h
      · exact h
      · omega
theorem Only.wv {R : Nat} {w w1 w2 : World} {v v1 : Value} (h : Only (Wv R v) w w1) (k : Only (Wv R v1) w1 w2) (o : Own2 w v v1) : Only (Wv R v) w w2 :=
  h.then_ k fun i hi hw => by
    rcases hw with rfl | hw
    · exact .inl rfl
    · rcases o with o | o
      · exact .inr (by rw [← o]; exact hw)
      · exact absurd (o i hw) (by omega)
/-- A state of memory that parts write from. -/
structure RepW (Rep : World → σ → Prop) (R : Nat) (Q : Nat → Prop) (w0 : World) : Prop where
  inR : Q R
  frW : ∀ w w' s, Rep w s → Only (fun i => Q i ∨ w0.heap.size ≤ i) w w' → Rep w' s
theorem RepW.wv {Rep : World → σ → Prop} {R : Nat} {Q : Nat → Prop} {w0 w w' : World} {s : σ} {v : Value} (h : RepW Rep R Q w0) (hR : Rep w s) (ha : AccIn R Q w0 v) (ho : Only (Wv R v) w w') : Rep w' s :=
  h.frW _ _ _ hR (ho.mono fun i _ hw => by
    rcases hw with rfl | hw
    · exact .inl h.inR
    · exact (ha i hw).2)
theorem RepW.one {Rep : World → σ → Prop} {R : Nat} {Q : Nat → Prop} {w0 w w' : World} {s : σ} (h : RepW Rep R Q w0) (hR : Rep w s) (ho : Only (· = R) w w') : Rep w' s :=
  h.frW _ _ _ hR (ho.mono fun i _ e => .inl (by rw [e]; exact h.inR))
theorem RepW.new {Rep : World → σ → Prop} {R : Nat} {Q : Nat → Prop} {w0 w w' : World} {s : σ} (h : RepW Rep R Q w0) (hR : Rep w s) (hb : Below w.heap.size w w') : Rep w' s :=
  h.frW _ _ _ hR ((Only.refl _ _).below hb)
/-- A part, when it writes; d: how many bytes at most. -/
structure WrPart (Rep : World → σ → Prop) (R : Nat) (Q : Nat → Prop) (w0 : World) (f : Nat) (cap : Array Value) (wr : σ → Except Int (List UInt8)) (d : Nat) : Prop where
  fn : Enters Tryz.prog f
  len : ∀ w s bs, Rep w s → wr s = .ok bs → bs.length ≤ d
  skip : ∀ w s v e, Only Q w0 w → Rep w s → e ≠ 0 → OwnL w R (roadC v 0 false e) →
    Calls Tryz.prog f (#[.pointer (some ⟨R, 0, none⟩)] ++ cap) w fun en w' => en = .returned (.tuple #[]) ∧ Only (· = R) w w' ∧ OwnL w' R (roadC v 0 false e)
  go : ∀ w s v acc, Only Q w0 w → Rep w s → OwnL w R (roadC v 0 false 0) → OwnB w 0 v acc → AccIn R Q w0 v → acc.length + d ≤ 1000000000 →
    Calls Tryz.prog f (#[.pointer (some ⟨R, 0, none⟩)] ++ cap) w fun en w' => en = .returned (.tuple #[]) ∧ Only (Wv R v) w w' ∧ ∃ v' e', OwnL w' R (roadC v' 0 false e') ∧
      ((e' = 0 ∧ ∃ bs, wr s = .ok bs ∧ OwnB w' 0 v' (acc ++ bs) ∧ Own2 w v v') ∨ (e' ≠ 0 ∧ ∃ er, wr s = .error er))
theorem RdPart.later {Rep : World → σ → Prop} {R : Nat} {P : Nat → Prop} {w0 w1 : World} {f : Nat} {cap : Array Value} {rd : σ → Ps σ} (h : RdPart Rep R P w0 f cap rd) (ho : Only P w0 w1) : RdPart Rep R P w1 f cap rd :=
  ⟨h.fn, fun w s v k e o => h.skip w s v k e (ho.trans o), fun w s v k xs o => h.go w s v k xs (ho.trans o)⟩
theorem WrPart.later {Rep : World → σ → Prop} {R : Nat} {Q : Nat → Prop} {w0 w1 : World} {f : Nat} {cap : Array Value} {wr : σ → Except Int (List UInt8)} {d : Nat} (h : WrPart Rep R Q w0 f cap wr d) {Q1 : Nat → Prop} (ho : Only Q w0 w1) (hq : ∀ i, i < w0.heap.size → Q1 i → Q i) (hq2 : ∀ i, Q1 i → Q i ∨ w0.heap.size ≤ i) : WrPart Rep R Q1 w1 f cap wr d :=
  ⟨h.fn, h.len, fun w s v e o => h.skip w s v e (ho.then_ o hq), fun w s v acc o hR hO hA ha => h.go w s v acc (ho.then_ o hq) hR hO hA fun g hg => ⟨(ha g hg).1, by
    rcases (ha g hg).2 with k | k
    · exact hq2 g k
    · exact .inr (Nat.le_trans ho.size k)⟩⟩
/-- A field of the state: where it stands, and what it becomes when something is stored there. -/
structure FldS (Rep : World → σ → Prop) (R : Nat) (P : Nat → Prop) (T o : Nat) (E : Nat → World → α → Value → Prop) (set : α → σ → σ) : Prop where
  inP : P T
  ne : T ≠ R
  has : ∀ w s, Rep w s → T < w.heap.size ∧ (∃ u, w.cell? ⟨T, o, none⟩ = some u) ∧ w.frozen? ⟨T, o, none⟩ = false
  put : ∀ w s base y u, Rep w s → E base w y u → (∀ i, P i → i < base) → Rep (w.setCell ⟨T, o, none⟩ u) (set y s)
/-- A field of the state that is read. -/
structure FldG (Rep : World → σ → Prop) (R : Nat) (T o : Nat) (D : World → α → Value → Prop) (get : σ → α) : Prop where
  has : ∀ w s, Rep w s → ∃ u, w.cell? ⟨T, o, none⟩ = some u ∧ D w (get s) u
  lt : ∀ w s, Rep w s → T < w.heap.size
/-- A getter: a function value that reads, in the worlds W. -/
def Getter (W : World → Prop) (fv : Value) (p : Ps α) (E : Nat → World → α → Value → Prop) : Prop :=
  ∃ f cap, fv = .func (.func f) #[] cap ∧ Enters Tryz.prog f ∧ ∀ w, W w → ∀ v xs, Rd w v xs → xs.length ≤ 1000000000 →
    Calls Tryz.prog f (#[v] ++ cap) w fun e w' => Below w.heap.size w w' ∧ ((∃ y j u, p xs = .ok (y, j) ∧ j ≤ xs.length ∧ e = .returned (.tuple #[u, .int .i64 (j : Nat), .int .i64 0]) ∧ E w.heap.size w' y u) ∨ ∃ er u, ∃ n : Int, p xs = .error er ∧ er ≠ 0 ∧ e = .returned (.tuple #[u, .int .i64 n, .int .i64 er]))
/-- A putter: a function value that writes, in the worlds W, at most d bytes. -/
def Putter (W : World → Prop) (fv : Value) (q : α → Except Int (List UInt8)) (D : World → α → Value → Prop) (d : Nat) : Prop :=
  (∀ w y u bs, D w y u → q y = .ok bs → bs.length ≤ d) ∧
  ∃ f cap, fv = .func (.func f) #[] cap ∧ Enters Tryz.prog f ∧ ∀ w, W w → ∀ y u, D w y u →
    Calls Tryz.prog f (#[u] ++ cap) w fun e w' => Below w.heap.size w w' ∧ ((∃ bs v, q y = .ok bs ∧ e = .returned (.tuple #[v, .int .i64 0]) ∧ OwnB w' w.heap.size v bs) ∨ ∃ er er', q y = .error er ∧ er' ≠ 0 ∧ e = .returned (.tuple #[.slice none 0 0, .int .i64 er']))
/-- A field of several cells: where it stands, and what it becomes when something is stored there. -/
structure FldSM (Rep : World → σ → Prop) (R : Nat) (P : Nat → Prop) (T o N : Nat) (enc : α → List Value) (wf : α → Prop) (set : α → σ → σ) : Prop where
  inP : P T
  ne : T ≠ R
  has : ∀ w s, Rep w s → T < w.heap.size ∧ w.there T o N
  put : ∀ w s y, Rep w s → wf y → Rep (w.setCells T o (enc y)) (set y s)
/-- A field of several cells that is read. -/
structure FldGM (Rep : World → σ → Prop) (T o : Nat) (enc : α → List Value) (wf : α → Prop) (get : σ → α) : Prop where
  has : ∀ w s, Rep w s → w.rangeAt T o (enc (get s)) ∧ wf (get s)
  lt : ∀ w s, Rep w s → T < w.heap.size
/-- A getter of several cells. -/
def GetterM (W : World → Prop) (fv : Value) (p : Ps α) (N : Nat) (enc : α → List Value) (wf : α → Prop) : Prop :=
  ∃ f cap, fv = .func (.func f) #[] cap ∧ Enters Tryz.prog f ∧ ∀ w, W w → ∀ v xs, Rd w v xs → xs.length ≤ 1000000000 →
    Calls Tryz.prog f (#[v] ++ cap) w fun e w' => Below w.heap.size w w' ∧ ∃ cs, ∃ n er : Int, e = .returned (.tuple #[.agg cs.toArray, .int .i64 n, .int .i64 er]) ∧ cs.length = N ∧ (∀ v ∈ cs, v.oneCell' = true) ∧
      ((er = 0 ∧ ∃ y j, p xs = .ok (y, j) ∧ n = (j : Nat) ∧ j ≤ xs.length ∧ cs = enc y ∧ wf y) ∨ (er ≠ 0 ∧ p xs = .error er))
/-- A putter of several cells. -/
def PutterM (W : World → Prop) (fv : Value) (q : α → Except Int (List UInt8)) (enc : α → List Value) (wf : α → Prop) (d : Nat) : Prop :=
  (∀ y bs, wf y → q y = .ok bs → bs.length ≤ d) ∧
  ∃ f cap, fv = .func (.func f) #[] cap ∧ Enters Tryz.prog f ∧ ∀ w, W w → ∀ y, wf y →
    Calls Tryz.prog f (#[.agg (enc y).toArray] ++ cap) w fun e w' => Below w.heap.size w w' ∧ ((∃ bs v, q y = .ok bs ∧ e = .returned (.tuple #[v, .int .i64 0]) ∧ OwnB w' w.heap.size v bs) ∨ ∃ er er', q y = .error er ∧ er' ≠ 0 ∧ e = .returned (.tuple #[.slice none 0 0, .int .i64 er']))
/-- What parts.of has made: a function value that bears where it puts, where it stores, and what it gets with. -/
structure OfShape (f : Nat) (w : World) (lo : Nat) (fv gv pv : Value) (T o : Nat) : Prop where
  box : ∃ X G Pb, fv = .func (.func f) #[] #[.pointer (some ⟨Pb, 0, none⟩), .pointer (some ⟨X, 0, none⟩), .pointer (some ⟨G, 0, none⟩)] ∧ lo ≤ X ∧ X < w.heap.size ∧ lo ≤ G ∧ G < w.heap.size ∧ lo ≤ Pb ∧ Pb < w.heap.size ∧
    w.cell? ⟨X, 0, none⟩ = some (.pointer (some ⟨T, o, none⟩)) ∧ w.cell? ⟨G, 0, none⟩ = some gv ∧ w.cell? ⟨Pb, 0, none⟩ = some pv
theorem OfShape.later {f : Nat} {w w' : World} {lo : Nat} {fv gv pv : Value} {T o : Nat} (h : OfShape f w lo fv gv pv T o) {P : Nat → Prop} (ho : Only P w w') (hP : ∀ i, lo ≤ i → i < w.heap.size → ¬ P i) : OfShape f w' lo fv gv pv T o := by
  obtain ⟨X, G, Pb, e, a1, a2, a3, a4, a5, a6, c1, c2, c3⟩ := h.box
  exact ⟨X, G, Pb, e, a1, Nat.lt_of_lt_of_le a2 ho.size, a3, Nat.lt_of_lt_of_le a4 ho.size, a5, Nat.lt_of_lt_of_le a6 ho.size, (ho.cell (a := ⟨X, 0, none⟩) a2 (hP _ a1 a2)).trans c1, (ho.cell (a := ⟨G, 0, none⟩) a4 (hP _ a3 a4)).trans c2, (ho.cell (a := ⟨Pb, 0, none⟩) a6 (hP _ a5 a6)).trans c3⟩
theorem Only.ne_ {w w' : World} (P : Nat → Prop) (b : Below w.heap.size w w') : Only P w w' := (Only.refl P w).below b
theorem Only.toG {w w' : World} {T : Nat} (o : Only (· = T) w w') : w.grownBy w' (some T) := ⟨o.os, o.tape, o.output, o.size, fun i hi hh => o.block i hi fun e => hh (by rw [e])⟩
theorem OwnB.only_lt {w w' : World} {base : Nat} {v : Value} {bs : List UInt8} (h : OwnB w base v bs) {P : Nat → Prop} (ho : Only P w w') (hn : ∀ i, P i → i < base) : OwnB w' base v bs := by
  refine h.only ho fun g hg hp => ?_
  have h0 := h
  unfold OwnB at h0
  rcases h0.2 with ⟨rfl, _⟩ | ⟨g', cap, cur, rfl, hb, _⟩
  · cases hg
  · injection hg with hg; subst hg; exact Nat.not_le_of_lt (hn _ hp) hb
theorem OwnB.isSlice {w : World} {base : Nat} {v : Value} {bs : List UInt8} (h : OwnB w base v bs) : ∃ A n c, v = .slice A n c := by
  obtain ⟨A, c, e, _⟩ := h.reads
  exact ⟨A, _, c, e⟩
/-- Adding bytes that can be read to bytes of the call's own: they lie where they lay, or in a new block. -/
theorem wp_append_at {w : World} {ops : Array Oper} {rest : List Oper} {o : Oper} {a : Act} {Q : Exit → Act → World → Prop} {v v2 : Value} {xs ys : List UInt8} (hgd : o.guard = none) (s x : Operand)
    (ho : o.op = .call { callee := .builtin .append, args := #[s, x], argTypes := #[24, 24] })
    (hs : a.eval s = v) (hx : a.eval x = v2) (h1 : OwnB w 0 v xs) (h2 : Rd w v2 ys) (hlen : xs.length + ys.length ≤ 1099511627776)
    (h : ∀ v' w', OwnB w' 0 v' (xs ++ ys) → w.grownBy w' v.ownBlock → (v'.ownBlock = v.ownBlock ∨ v'.ownBlock = some w.heap.size) → wpList Tryz.prog ops Q rest (a.put o.dst v') w') : wpList Tryz.prog ops Q (o :: rest) a w := by
  have hi := info_u8
  obtain ⟨i0, hi, hz⟩ : ∃ i0, Tryz.prog.info? 5 = some i0 ∧ (i0.zero, i0.size, i0.bytes) = (some (.int .u8 0), 1, 1) := by
    cases he : Tryz.prog.info? 5 with
    | none => rw [he] at hi; cases hi
    | some i0 => rw [he] at hi; exact ⟨i0, rfl, by simpa using hi⟩
  simp only [Prod.mk.injEq] at hz
  have h1' := h1
  unfold OwnB at h1'
  rcases h2 with ⟨rfl, rfl⟩ | ⟨b, off, c, rfl, hc1, hc2, hb, hcell⟩
  · have hrun := run_append_owned_none (P := Tryz.prog) (w := w) 0 24 o.type 5 i0 1 Tryz.underlying24 hi v xs.length _ h1'
    refine wpList_plain hgd fun _ hK => ?_
    unfold Oper.wp
    simp only [execOp, ho, resolve, invoke, builtin, hs, hx, hrun, Result.andThen, Sem.run_bind, Sem.run_pure, Result.andThen_ok, List.map_toArray, List.map_cons, List.map_nil]
    exact hK _ _ (h v w (by rw [List.append_nil]; exact h1) (World.grownBy.refl _ _) (.inl rfl))
  · refine wpList_append_own_at (w := w) hgd s x 24 ho 0 5 i0 (.int .u8 0) 1 1 Tryz.underlying24 hi hz.1 hz.2.1 hz.2.2 rfl (by decide) v _ _ hs h1' _ _ _ (u8s ys) hx (by simp [u8s]) (fun j u hu => ?_) (by intro u hu; obtain ⟨y, _, rfl⟩ := List.mem_map.1 hu; rfl) (by unfold maxLen; omega) (by omega) (Nat.zero_le _) ?_
    · have hj : j < ys.length := by
        have := (List.getElem?_eq_some_iff.1 hu).1
        simpa [u8s] using this
      rw [Addr.add_lit, hcell j hj, ← hu, u8s, List.getElem?_map, List.getD_eq_getElem?_getD]
      simp [hj]
    · intro v' w' ho' hg' _ hown
      refine h v' w' ?_ hg' hown
      rw [← u8s_append, ← List.length_append] at ho'; exact ho'
theorem w64_at {k j : Nat} (h1 : k ≤ 1000000000) (h2 : j ≤ 1000000000) : wrap64 ((k : Int) + (j : Int)) = ((k + j : Nat) : Int) := by unfold wrap64; omega
theorem only_setCells {w : World} {T o : Nat} {vs : List Value} : Only (· = T) w (w.setCells T o vs) := by
  obtain ⟨h1, h2, h3, h4⟩ := setCells_same T vs o w
  exact ⟨h1, h2, h3, by rw [h4]; exact Nat.le_refl _, fun i _ hi => setCells_heap T i hi vs o w⟩
theorem rangeAt_below {w w' : World} {T o : Nat} {cs : List Value} (h : w.rangeAt T o cs) (hT : T < w.heap.size) (hb : Below w.heap.size w w') : w'.rangeAt T o cs := fun j v hv => ((bcell hb).1 T (o + j) hT).trans (h j v hv)
/-- What stands from a place on. -/
theorem Rd.suffix {w : World} {v : Value} {xs : List UInt8} (h : Rd w v xs) {k : Nat} (hk : k ≤ xs.length) : ∃ v', Rd w v' (xs.drop k) ∧ ∀ wx : World, (Instr.slice 24 v (some (.int .i64 k)) none none).run Tryz.prog wx = .ok v' wx := by
  rcases h with ⟨rfl, rfl⟩ | ⟨b, off, c, rfl, h1, h2, h3, h4⟩
  · obtain rfl : k = 0 := by simpa using hk
    exact ⟨.slice none 0 0, .inl ⟨rfl, rfl⟩, fun wx => by simp [go_sem, Tryz.underlying24]⟩
  · obtain ⟨k1, k2, k3⟩ := (show Rd w (.slice (some ⟨b, off, none⟩) xs.length c) xs from .inr ⟨b, off, c, rfl, h1, h2, h3, h4⟩).from hk
    rcases Nat.lt_or_ge k c with hc | hc
    · refine ⟨_, k2 hc, fun wx => ?_⟩
      rw [run_slice_l (P := Tryz.prog) wx 24 (some ⟨b, off, none⟩) xs.length c (by kernel_rfl) .i64 k (by omega) (by omega)]
      have : (sizeOf (Tryz.prog.elem 24)).run Tryz.prog wx = .ok 1 wx := by kernel_rfl
      rw [this]
      simp [Result.andThen, sliced, Addr.add, show ¬ c = k by omega]
    · obtain rfl : k = c := by omega
      refine ⟨_, k3 rfl, fun wx => ?_⟩
      rw [run_slice_l (P := Tryz.prog) wx 24 (some ⟨b, off, none⟩) xs.length k (by kernel_rfl) .i64 k (by omega) (by omega)]
      have : (sizeOf (Tryz.prog.elem 24)).run Tryz.prog wx = .ok 1 wx := by kernel_rfl
      rw [this]
      simp [Result.andThen, sliced]
end Go.Proofs.YtgmhapjidbdhnaaGreat
namespace Go.Proofs.YtgmhapjidbdhnaaGreat
open Go.RowKit
/-- A slice of function values that can be read. -/
def PL (w : World) (v : Value) (fvs : List Value) : Prop :=
  (v = .slice none 0 0 ∧ fvs = []) ∨ ∃ b off c, v = .slice (some ⟨b, off, none⟩) fvs.length c ∧ fvs.length ≤ 1000 ∧ b < w.heap.size ∧ ∀ j (hj : j < fvs.length), w.cell? ⟨b, off + j, none⟩ = some fvs[j]
theorem PL.only {P : Nat → Prop} {w w' : World} {v : Value} {fvs : List Value} (h : PL w v fvs) (ho : Only P w w') (hn : ∀ g, Value.inBlock v = some g → ¬ P g) : PL w' v fvs := by
  rcases h with h | ⟨b, off, c, rfl, h1, h2, h3⟩
  · exact .inl h
  · exact .inr ⟨b, off, c, rfl, h1, Nat.lt_of_lt_of_le h2 ho.size, fun j hj => (ho.cell (a := ⟨b, off + j, none⟩) h2 (hn b rfl)).trans (h3 j hj)⟩
set_option maxRecDepth 100000 in
set_option maxHeartbeats 2000000 in
/-- Parts, one behind the other: what holds ahead of each holds behind the last. -/
theorem Do_gen {R : Nat} {fvs : List Value} {v : Value} {Inv : Nat → World → Prop} (hv : ∀ j w, Inv j w → PL w v fvs)
    (hp : ∀ j (hj : j < fvs.length), ∃ f cap, fvs[j] = .func (.func f) #[] cap ∧ Enters Tryz.prog f ∧ ∀ w, Inv j w → Calls Tryz.prog f (#[.pointer (some ⟨R, 0, none⟩)] ++ cap) w fun en w' => en = .returned (.tuple #[]) ∧ Inv (j + 1) w')
    {w : World} (h0 : Inv 0 w) : Calls Tryz.prog 24 #[.pointer (some ⟨R, 0, none⟩), v] w fun en w' => en = .returned (.tuple #[]) ∧ Inv fvs.length w' := by
  rcases hv 0 w h0 with ⟨rfl, rfl⟩ | ⟨b, off, c, rfl, hl, hb, hc⟩
  · have H0 := Lib.hid h0
    clear hv hp h0
    go_enter Tryz.func24, Tryz.ntmps24
    go_wp2
    go_loopw [8] (fun s8 wr => s8 = .int .i64 0 ∧ w = wr) (fun s8 wr => 0)
    case atStart => exact ⟨rfl, rfl⟩
    case round =>
      obtain ⟨rfl, rfl⟩ := hrel
      go_wp2
      go_end0
      exact ⟨rfl, H0.out⟩
  · have H0 := Lib.hid h0; have HV := Lib.hid hv; have HP := Lib.hid hp
    have HL := Lib.hid hl
    clear hv hp h0 hb hc
    have hl9 : (fvs.length : Int) ≤ 1000 := by omega
    clear hl
    obtain ⟨n, hn⟩ : ∃ n, fvs.length = n := ⟨_, rfl⟩
    rw [hn] at hl9 HL ⊢
    have HN := Lib.hid hn
    clear hn
    go_enter Tryz.func24, Tryz.ntmps24
    go_wp2
    go_loopw [8] (fun s8 wr => ∃ k : Nat, k ≤ n ∧ s8 = .int .i64 k ∧ Inv k wr) (fun s8 wr => n - (intOf s8).toNat)
    case atStart => exact ⟨0, Nat.zero_le _, rfl, H0.out⟩
    case round =>
      obtain ⟨k, hk, rfl, hI⟩ := hrel
      by_cases hlt : k < n
      · have hkl : k < fvs.length := by rw [HN.out]; exact hlt
        obtain ⟨f, cap, hf, eg, hcall⟩ := HP.out k hkl
        have hpl := HV.out k _ hI
        have hcell : wr.cell? ⟨b, off + k, none⟩ = some (.func (.func f) #[] cap) := by
          rcases hpl with ⟨h, _⟩ | ⟨b', off', c', h, _, _, hc⟩
          · cases h
          · injection h with h1 h2 h3
            injection h1 with h1
            injection h1 with e1 e2 e3
            subst e1; subst e2
            rw [hc k hkl, hf]
        have hbl : b < wr.heap.size := by
          rcases hpl with ⟨h, _⟩ | ⟨b', off', c', h, _, hb, _⟩
          · cases h
          · injection h with h1 h2 h3
            injection h1 with h1
            injection h1 with e1 e2 e3
            subst e1; exact hb
        have eg2 : ∀ (args : Array Value) (wx : World), (callFunc f args).run Tryz.prog wx = .ok (.enter f args) wx := eg
        have HC := Lib.hid (hcall _ hI)
        have hkI : (k : Int) < (n : Int) := by omega
        clear hcall hpl hf eg hI
        go_wp2_with (go_at_fn f; (refine Calls.mono HC.out ?_); rintro e w1 ⟨rfl, hI1⟩; (have HI1 := Lib.hid hI1); clear hI1)
        go_roundw
        case rel => exact ⟨k + 1, by omega, by go_num, HI1.out⟩
        case measure => simp [intOf]; omega
      · obtain rfl : k = n := by omega
        have HI := Lib.hid hI
        clear hI hlt hk
        go_wp2
        go_end0
        exact ⟨rfl, HI.out⟩
end Go.Proofs.YtgmhapjidbdhnaaGreat
namespace Go.Proofs.YtgmhapjidbdhnaaGreat
open Go.RowKit
variable {σ : Type} {Rep : World → σ → Prop} {R : Nat} {P Q : Nat → Prop} {w0 w : World}
/-- A function value that is a part that reads so. -/
def IsRd (Rep : World → σ → Prop) (R : Nat) (P : Nat → Prop) (w0 : World) (fv : Value) (rd : σ → Ps σ) : Prop := ∃ f cap, fv = .func (.func f) #[] cap ∧ RdPart Rep R P w0 f cap rd
/-- .. that writes so. -/
def IsWr (Rep : World → σ → Prop) (R : Nat) (Q : Nat → Prop) (w0 : World) (fv : Value) (wr : σ → Except Int (List UInt8)) (d : Nat) : Prop := ∃ f cap, fv = .func (.func f) #[] cap ∧ WrPart Rep R Q w0 f cap wr d
theorem IsRd.later {fv : Value} {rd : σ → Ps σ} {w1 : World} (h : IsRd Rep R P w0 fv rd) (ho : Only P w0 w1) : IsRd Rep R P w1 fv rd := by
  obtain ⟨f, cap, e, h⟩ := h
  exact ⟨f, cap, e, h.later ho⟩
theorem IsWr.later {fv : Value} {wr : σ → Except Int (List UInt8)} {d : Nat} {w1 : World} (h : IsWr Rep R Q w0 fv wr d) {Q1 : Nat → Prop} (ho : Only Q w0 w1) (hq : ∀ i, i < w0.heap.size → Q1 i → Q i) (hq2 : ∀ i, Q1 i → Q i ∨ w0.heap.size ≤ i) : IsWr Rep R Q1 w1 fv wr d := by
  obtain ⟨f, cap, e, h⟩ := h
  exact ⟨f, cap, e, h.later ho hq hq2⟩
theorem IsWr.more {fv : Value} {wr : σ → Except Int (List UInt8)} {d d' : Nat} (h : IsWr Rep R Q w0 fv wr d) (hd : d ≤ d') : IsWr Rep R Q w0 fv wr d' := by
  obtain ⟨f, cap, e, h⟩ := h
  exact ⟨f, cap, e, h.fn, fun w s bs hR hq => Nat.le_trans (h.len w s bs hR hq) hd, h.skip, fun w s v acc ho hR hO hA ha hl => h.go w s v acc ho hR hO hA ha (by omega)⟩
def shiftP (m : Nat) (r : Except Int (σ × Nat)) : Except Int (σ × Nat) := match r with | .error e => .error e | .ok (t, n) => .ok (t, m + n)
theorem shiftP_shiftP (a b : Nat) (r : Except Int (σ × Nat)) : shiftP a (shiftP b r) = shiftP (a + b) r := by
  rcases r with e | ⟨t, n⟩
  · rfl
  · simp [shiftP, Nat.add_assoc]
theorem seqP_cons (p : σ → Ps σ) (l : List (σ → Ps σ)) (s : σ) (xs : List UInt8) : seqP (p :: l) s xs = match p s xs with | .error e => .error e | .ok (t, i) => shiftP i (seqP l t (xs.drop i)) := by
  rw [seqP, Ps.bind]
  rcases p s xs with e | ⟨t, i⟩
  · rfl
  · rfl
/-- Where the reading stands ahead of the part j. -/
def Aft (rds : List (σ → Ps σ)) (s : σ) (k : Nat) (xs : List UInt8) (j : Nat) (s' : σ) (k' : Nat) : Prop := k ≤ k' ∧ k' ≤ xs.length ∧ seqP rds s (xs.drop k) = shiftP (k' - k) (seqP (rds.drop j) s' (xs.drop k'))
theorem Aft.start (rds : List (σ → Ps σ)) (s : σ) {k : Nat} {xs : List UInt8} (hk : k ≤ xs.length) : Aft rds s k xs 0 s k := by
  refine ⟨Nat.le_refl _, hk, ?_⟩
  rw [Nat.sub_self, List.drop_zero]
  rcases seqP rds s (xs.drop k) with e | ⟨t, n⟩
  · rfl
  · simp [shiftP]
theorem Aft.step {rds : List (σ → Ps σ)} {s s' : σ} {k k' j : Nat} {xs : List UInt8} (h : Aft rds s k xs j s' k') (hj : j < rds.length) {s'' : σ} {k'' : Nat} {e : Int} (hr : RdTo (rds[j] s' (xs.drop k')) xs.length k' s'' k'' e) :
    (e = 0 ∧ Aft rds s k xs (j + 1) s'' k'') ∨ (e ≠ 0 ∧ seqP rds s (xs.drop k) = .error e) := by
  obtain ⟨h1, h2, h3⟩ := h
  rw [List.drop_eq_getElem_cons hj, seqP_cons] at h3
  rcases hr with ⟨i, hp, rfl, hl, rfl⟩ | ⟨hp, hne⟩
  · refine .inl ⟨rfl, by omega, hl, ?_⟩
    rw [hp] at h3
    dsimp only at h3
    rw [h3, shiftP_shiftP, List.drop_drop]
    congr 1
    omega
  · refine .inr ⟨hne, ?_⟩
    rw [hp] at h3
    exact h3
theorem Aft.done {rds : List (σ → Ps σ)} {s s' : σ} {k k' : Nat} {xs : List UInt8} (h : Aft rds s k xs rds.length s' k') : RdTo (seqP rds s (xs.drop k)) xs.length k s' k' 0 := by
  obtain ⟨h1, h2, h3⟩ := h
  rw [List.drop_length, seqP] at h3
  exact .inl ⟨k' - k, by rw [h3]; rfl, by omega, h2, rfl⟩
theorem Do_skipR {ps : List (Value × (σ → Ps σ))} {v bv : Value} {s : σ} {k : Nat} {e : Int} (hp : ∀ p ∈ ps, IsRd Rep R P w0 p.1 p.2) (hv : PL w0 v (ps.map (·.1))) (hn : ∀ g, Value.inBlock v = some g → ¬ P g)
    (ho : Only P w0 w) (hR : Rep w s) (he : e ≠ 0) (hO : OwnL w R (roadC bv k true e)) :
    Calls Tryz.prog 24 #[.pointer (some ⟨R, 0, none⟩), v] w fun en w' => en = .returned (.tuple #[]) ∧ Only P w w' ∧ OwnL w' R (roadC bv k true e) ∧ ∃ s', Rep w' s' := by
  refine Calls.mono (Do_gen (R := R) (fvs := ps.map (·.1)) (v := v) (Inv := fun _ w' => Only P w w' ∧ OwnL w' R (roadC bv k true e) ∧ ∃ s', Rep w' s') (fun j w' h => hv.only (ho.trans h.1) hn) (fun j hj => ?_) (w := w) ⟨Only.refl _ _, hO, s, hR⟩) ?_
  · have hj' : j < ps.length := by simpa using hj
    obtain ⟨f, cap, e1, h⟩ := hp ps[j] (List.getElem_mem hj')
    refine ⟨f, cap, by rw [List.getElem_map]; exact e1, h.fn, fun w' ⟨o1, hO1, s1, hR1⟩ => ?_⟩
    refine Calls.mono (h.skip w' s1 bv k e (ho.trans o1) hR1 he hO1) ?_
    rintro en w2 ⟨rfl, o2, hO2, hR2⟩
    exact ⟨rfl, o1.trans o2, hO2, hR2⟩
  · rintro en w2 ⟨rfl, o2, hO2, hR2⟩
    exact ⟨rfl, o2, hO2, hR2⟩
theorem Do_goR {ps : List (Value × (σ → Ps σ))} {v bv : Value} {s : σ} {k : Nat} {xs : List UInt8} (hp : ∀ p ∈ ps, IsRd Rep R P w0 p.1 p.2) (hv : PL w0 v (ps.map (·.1))) (hn : ∀ g, Value.inBlock v = some g → ¬ P g)
    (ho : Only P w0 w) (hR : Rep w s) (hO : OwnL w R (roadC bv k true 0)) (hb : Rd w bv xs) (hbn : ∀ g, Value.inBlock bv = some g → ¬ P g) (hk : k ≤ xs.length) (hx : xs.length ≤ 1000000000) :
    Calls Tryz.prog 24 #[.pointer (some ⟨R, 0, none⟩), v] w fun en w' => en = .returned (.tuple #[]) ∧ Only P w w' ∧ ∃ s' k' e', OwnL w' R (roadC bv k' true e') ∧ Rep w' s' ∧ RdTo (seqP (ps.map (·.2)) s (xs.drop k)) xs.length k s' k' e' := by
  refine Calls.mono (Do_gen (R := R) (fvs := ps.map (·.1)) (v := v) (Inv := fun j w' => Only P w w' ∧ ∃ s' k' e', OwnL w' R (roadC bv k' true e') ∧ Rep w' s' ∧ ((e' = 0 ∧ Aft (ps.map (·.2)) s k xs j s' k') ∨ (e' ≠ 0 ∧ seqP (ps.map (·.2)) s (xs.drop k) = .error e'))) (fun j w' h => hv.only (ho.trans h.1) hn) (fun j hj => ?_) (w := w) ⟨Only.refl _ _, s, k, 0, hO, hR, .inl ⟨rfl, Aft.start _ _ hk⟩⟩) ?_
  · have hj' : j < ps.length := by simpa using hj
    obtain ⟨f, cap, e1, h⟩ := hp ps[j] (List.getElem_mem hj')
    refine ⟨f, cap, by rw [List.getElem_map]; exact e1, h.fn, fun w' ⟨o1, s1, k1, e', hO1, hR1, hs⟩ => ?_⟩
    rcases hs with ⟨rfl, ha⟩ | ⟨hne, hs⟩
    · refine Calls.mono (h.go w' s1 bv k1 xs (ho.trans o1) hR1 hO1 (hb.only o1 hbn) hbn ha.2.1 hx) ?_
      rintro en w2 ⟨rfl, o2, s2, k2, e2, hO2, hR2, hr⟩
      refine ⟨rfl, o1.trans o2, s2, k2, e2, hO2, hR2, ?_⟩
      have hj2 : j < (ps.map (·.2)).length := by simpa using hj'
      exact ha.step hj2 (by rw [List.getElem_map]; exact hr)
    · refine Calls.mono (h.skip w' s1 bv k1 e' (ho.trans o1) hR1 hne hO1) ?_
      rintro en w2 ⟨rfl, o2, hO2, s2, hR2⟩
      exact ⟨rfl, o1.trans o2, s2, k1, e', hO2, hR2, .inr ⟨hne, hs⟩⟩
  · rintro en w2 ⟨rfl, o2, s2, k2, e2, hO2, hR2, hs⟩
    refine ⟨rfl, o2, s2, k2, e2, hO2, hR2, ?_⟩
    rcases hs with ⟨rfl, ha⟩ | ⟨hne, hs⟩
    · have hl : (ps.map (·.1)).length = (ps.map (·.2)).length := by simp
      rw [hl] at ha
      exact ha.done
    · exact .inr ⟨hs, hne⟩
theorem catP_take_ok {l : List (Except Int (List UInt8))} {j : Nat} (hj : j < l.length) {a b : List UInt8} (h : catP (l.take j) = .ok a) (hb : l[j] = .ok b) : catP (l.take (j + 1)) = .ok (a ++ b) := by
  rw [List.take_succ_eq_append_getElem hj, hb]
  exact catP_snoc_ok h b
theorem catP_take_err {l : List (Except Int (List UInt8))} {j : Nat} (hj : j < l.length) {a : List UInt8} {e : Int} (h : catP (l.take j) = .ok a) (hb : l[j] = .error e) : catP l = .error e := by
  have := catP_stop (rs := l.take j) (rs' := l.drop (j + 1)) h e
  rw [← hb, ← List.drop_eq_getElem_cons hj, List.take_append_drop] at this
  rw [this, hb]
theorem Do_skipW {ps : List (Value × (σ → Except Int (List UInt8)))} {v bv : Value} {s : σ} {e : Int} {d : Nat} (hW : RepW Rep R Q w0) (hp : ∀ p ∈ ps, IsWr Rep R Q w0 p.1 p.2 d) (hv : PL w0 v (ps.map (·.1))) (hn : ∀ g, Value.inBlock v = some g → ¬ Q g)
    (ho : Only Q w0 w) (hR : Rep w s) (he : e ≠ 0) (hO : OwnL w R (roadC bv 0 false e)) :
    Calls Tryz.prog 24 #[.pointer (some ⟨R, 0, none⟩), v] w fun en w' => en = .returned (.tuple #[]) ∧ Only (· = R) w w' ∧ OwnL w' R (roadC bv 0 false e) := by
  have hq : ∀ w', Only (· = R) w w' → Only Q w0 w' := fun w' o => ho.trans (o.mono fun i _ e => by rw [e]; exact hW.inR)
  refine Calls.mono (Do_gen (R := R) (fvs := ps.map (·.1)) (v := v) (Inv := fun _ w' => Only (· = R) w w' ∧ OwnL w' R (roadC bv 0 false e)) (fun j w' h => hv.only (hq _ h.1) hn) (fun j hj => ?_) (w := w) ⟨Only.refl _ _, hO⟩) ?_
  · have hj' : j < ps.length := by simpa using hj
    obtain ⟨f, cap, e1, h⟩ := hp ps[j] (List.getElem_mem hj')
    refine ⟨f, cap, by rw [List.getElem_map]; exact e1, h.fn, fun w' ⟨o1, hO1⟩ => ?_⟩
    refine Calls.mono (h.skip w' s bv e (hq _ o1) (hW.one hR o1) he hO1) ?_
    rintro en w2 ⟨rfl, o2, hO2⟩
    exact ⟨rfl, o1.trans o2, hO2⟩
  · rintro en w2 ⟨rfl, o2, hO2⟩
    exact ⟨rfl, o2, hO2⟩
theorem Do_goW {ps : List (Value × (σ → Except Int (List UInt8)))} {v bv : Value} {s : σ} {d : Nat} {acc : List UInt8} (hW : RepW Rep R Q w0) (hp : ∀ p ∈ ps, IsWr Rep R Q w0 p.1 p.2 d) (hv : PL w0 v (ps.map (·.1))) (hn : ∀ g, Value.inBlock v = some g → ¬ Q g)
    (ho : Only Q w0 w) (hR : Rep w s) (hO : OwnL w R (roadC bv 0 false 0)) (hA : OwnB w 0 bv acc) (ha : AccIn R Q w0 bv) (hl : acc.length + ps.length * d ≤ 1000000000) :
    Calls Tryz.prog 24 #[.pointer (some ⟨R, 0, none⟩), v] w fun en w' => en = .returned (.tuple #[]) ∧ Only (Wv R bv) w w' ∧ ∃ v' e', OwnL w' R (roadC v' 0 false e') ∧
      ((e' = 0 ∧ ∃ bs, seqQ (ps.map (·.2)) s = .ok bs ∧ OwnB w' 0 v' (acc ++ bs) ∧ Own2 w bv v') ∨ (e' ≠ 0 ∧ ∃ er, seqQ (ps.map (·.2)) s = .error er)) := by
  refine Calls.mono (Do_gen (R := R) (fvs := ps.map (·.1)) (v := v) (Inv := fun j w' => Only (Wv R bv) w w' ∧ ∃ v' e', OwnL w' R (roadC v' 0 false e') ∧
      ((e' = 0 ∧ ∃ bs, catP (((ps.map (·.2)).map fun q => q s).take j) = .ok bs ∧ bs.length ≤ j * d ∧ OwnB w' 0 v' (acc ++ bs) ∧ Own2 w bv v') ∨ (e' ≠ 0 ∧ ∃ er, seqQ (ps.map (·.2)) s = .error er))) (fun j w' h => hv.only (ho.toQ h.1 hW.inR ha) hn) (fun j hj => ?_) (w := w) ⟨Only.refl _ _, bv, 0, hO, .inl ⟨rfl, [], rfl, Nat.zero_le _, by rw [List.append_nil]; exact hA, Own2.refl _ _⟩⟩) ?_
  · have hj' : j < ps.length := by simpa using hj
    obtain ⟨f, cap, e1, h⟩ := hp ps[j] (List.getElem_mem hj')
    refine ⟨f, cap, by rw [List.getElem_map]; exact e1, h.fn, fun w' ⟨o1, v1, e', hO1, hs⟩ => ?_⟩
    have hR1 := hW.wv hR ha o1
    have ho1 := ho.toQ o1 hW.inR ha
    rcases hs with ⟨rfl, bs, hc, hbl, hA1, h2⟩ | ⟨hne, hs⟩
    · have hjd : j * d + d ≤ ps.length * d := by
        have := Nat.mul_le_mul_right d (Nat.succ_le_of_lt hj')
        rw [Nat.succ_mul] at this; exact this
      have hlj : ((ps.map (·.2)).map fun q => q s).length = ps.length := by simp
      refine Calls.mono (h.go w' s v1 (acc ++ bs) ho1 hR1 hO1 hA1 (ha.next ho.size hO.1 h2) (by rw [List.length_append]; omega)) ?_
      rintro en w2 ⟨rfl, o2, v2, e2, hO2, hs2⟩
      refine ⟨rfl, o1.wv o2 h2, v2, e2, hO2, ?_⟩
      rcases hs2 with ⟨rfl, cs, hq, hA2, h3⟩ | ⟨hne, er, hq⟩
      · refine .inl ⟨rfl, bs ++ cs, catP_take_ok (by rw [hlj]; exact hj') hc (by simp [hq]), ?_, by rw [← List.append_assoc]; exact hA2, h2.trans o1.size h3⟩
        have := h.len w' s cs hR1 hq
        rw [List.length_append, Nat.succ_mul]; omega
      · exact .inr ⟨hne, er, catP_take_err (by rw [hlj]; exact hj') hc (by simp [hq])⟩
    · refine Calls.mono (h.skip w' s v1 e' ho1 hR1 hne hO1) ?_
      rintro en w2 ⟨rfl, o2, hO2⟩
      exact ⟨rfl, o1.then_ o2 (fun i _ e => .inl e), v1, e', hO2, .inr ⟨hne, hs⟩⟩
  · rintro en w2 ⟨rfl, o2, v2, e2, hO2, hs⟩
    refine ⟨rfl, o2, v2, e2, hO2, ?_⟩
    rcases hs with ⟨rfl, bs, hc, _, hA2, h2⟩ | hs
    · refine .inl ⟨rfl, bs, ?_, hA2, h2⟩
      rw [List.take_of_length_le (by simp)] at hc
      exact hc
    · exact .inr hs
end Go.Proofs.YtgmhapjidbdhnaaGreat
namespace Go.Proofs.YtgmhapjidbdhnaaGreat
open Go.RowKit
variable {σ : Type} {Rep : World → σ → Prop} {R : Nat} {P Q : Nat → Prop} {w0 w : World}
/-- What is read can be read, if there is no error. -/
def RdPre (P : Nat → Prop) (w : World) (v : Value) (k : Nat) (e : Int) (xs : List UInt8) : Prop := e = 0 → Rd w v xs ∧ (∀ g, Value.inBlock v = some g → ¬ P g) ∧ k ≤ xs.length ∧ xs.length ≤ 1000000000
/-- What reading a part comes to. -/
def PtPost (Rep : World → σ → Prop) (R : Nat) (P : Nat → Prop) (rd : σ → Ps σ) (w : World) (s : σ) (v : Value) (k : Nat) (e : Int) (xs : List UInt8) (en : Ending) (w' : World) : Prop :=
  en = .returned (.tuple #[]) ∧ Only P w w' ∧ ∃ s' k' e', OwnL w' R (roadC v k' true e') ∧ Rep w' s' ∧ ((e ≠ 0 ∧ e' = e ∧ k' = k) ∨ (e = 0 ∧ RdTo (rd s (xs.drop k)) xs.length k s' k' e'))
theorem RdPart.any {f : Nat} {cap : Array Value} {rd : σ → Ps σ} (h : RdPart Rep R P w0 f cap rd) {s : σ} {v : Value} {k : Nat} {e : Int} {xs : List UInt8} (ho : Only P w0 w) (hR : Rep w s) (hO : OwnL w R (roadC v k true e)) (hp : RdPre P w v k e xs) :
    Calls Tryz.prog f (#[.pointer (some ⟨R, 0, none⟩)] ++ cap) w (PtPost Rep R P rd w s v k e xs) := by
  by_cases he : e = 0
  · subst he
    obtain ⟨h1, h2, h3, h4⟩ := hp rfl
    refine Calls.mono (h.go w s v k xs ho hR hO h1 h2 h3 h4) ?_
    rintro en w' ⟨rfl, o1, s', k', e', hO', hR', hr⟩
    exact ⟨rfl, o1, s', k', e', hO', hR', .inr ⟨rfl, hr⟩⟩
  · refine Calls.mono (h.skip w s v k e ho hR he hO) ?_
    rintro en w' ⟨rfl, o1, hO', s', hR'⟩
    exact ⟨rfl, o1, s', k, e, hO', hR', .inl ⟨he, rfl, rfl⟩⟩
theorem RdPart.of_any {f : Nat} {cap : Array Value} {rd : σ → Ps σ} (hf : Enters Tryz.prog f)
    (h : ∀ w s v k e xs, Only P w0 w → Rep w s → OwnL w R (roadC v k true e) → RdPre P w v k e xs → Calls Tryz.prog f (#[.pointer (some ⟨R, 0, none⟩)] ++ cap) w (PtPost Rep R P rd w s v k e xs)) : RdPart Rep R P w0 f cap rd where
  fn := hf
  skip w s v k e ho hR he hO := by
    refine Calls.mono (h w s v k e [] ho hR hO (fun h => absurd h he)) ?_
    rintro en w' ⟨rfl, o1, s', k', e', hO', hR', ⟨_, rfl, rfl⟩ | ⟨h, _⟩⟩
    · exact ⟨rfl, o1, hO', s', hR'⟩
    · exact absurd h he
  go w s v k xs ho hR hO h1 h2 h3 h4 := by
    refine Calls.mono (h w s v k 0 xs ho hR hO (fun _ => ⟨h1, h2, h3, h4⟩)) ?_
    rintro en w' ⟨rfl, o1, s', k', e', hO', hR', ⟨h, _⟩ | ⟨_, hr⟩⟩
    · exact absurd rfl h
    · exact ⟨rfl, o1, s', k', e', hO', hR', hr⟩
theorem RdPre.only {v : Value} {k : Nat} {e : Int} {xs : List UInt8} {w' : World} (h : RdPre P w v k e xs) (ho : Only P w w') : RdPre P w' v k e xs := fun he => by
  obtain ⟨h1, h2, h3, h4⟩ := h he
  exact ⟨h1.only ho h2, h2, h3, h4⟩
theorem RdPre.next {v : Value} {k k' : Nat} {e e' : Int} {xs : List UInt8} {w' : World} {r : Except Int (σ × Nat)} {s' : σ} (h : RdPre P w v k e xs) (ho : Only P w w') (hr : (e ≠ 0 ∧ e' = e ∧ k' = k) ∨ (e = 0 ∧ RdTo r xs.length k s' k' e')) : RdPre P w' v k' e' xs := fun he => by
  rcases hr with ⟨hne, rfl, rfl⟩ | ⟨rfl, hr⟩
  · exact absurd he hne
  · obtain ⟨h1, h2, h3, h4⟩ := h rfl
    rcases hr with ⟨j, _, _, hl, _⟩ | ⟨_, hne⟩
    · exact ⟨h1.only ho h2, h2, hl, h4⟩
    · exact absurd he hne
/-- Two parts, one behind the other. -/
theorem RdTo.bind2 {p : Ps σ} {q : σ → Ps σ} {xs : List UInt8} {k k1 k2 : Nat} {e e1 e2 : Int} {s1 s2 : σ}
    (h1 : (e ≠ 0 ∧ e1 = e ∧ k1 = k) ∨ (e = 0 ∧ RdTo (p (xs.drop k)) xs.length k s1 k1 e1)) (h2 : (e1 ≠ 0 ∧ e2 = e1 ∧ k2 = k1) ∨ (e1 = 0 ∧ RdTo (q s1 (xs.drop k1)) xs.length k1 s2 k2 e2)) :
    (e ≠ 0 ∧ e2 = e ∧ k2 = k) ∨ (e = 0 ∧ RdTo (Ps.bind p q (xs.drop k)) xs.length k s2 k2 e2) := by
  rcases h1 with ⟨hne, rfl, rfl⟩ | ⟨rfl, hr⟩
  · rcases h2 with ⟨_, rfl, rfl⟩ | ⟨h, _⟩
    · exact .inl ⟨hne, rfl, rfl⟩
    · exact absurd h hne
  · refine .inr ⟨rfl, ?_⟩
    rcases hr with ⟨j, hp, rfl, hl, rfl⟩ | ⟨hp, hne⟩
    · rcases h2 with ⟨h, _⟩ | ⟨_, hr2⟩
      · exact absurd rfl h
      · rw [← List.drop_drop] at hr2
        rcases hr2 with ⟨i, hq, rfl, hl2, rfl⟩ | ⟨hq, hne⟩
        · exact .inl ⟨j + i, Ps.bind_ok_ok hp hq, by omega, hl2, rfl⟩
        · exact .inr ⟨Ps.bind_ok_error hp hq, hne⟩
    · rcases h2 with ⟨_, rfl, _⟩ | ⟨h, _⟩
      · exact .inr ⟨Ps.bind_error hp, hne⟩
      · exact absurd h hne
/-- What is written so far, if there is no error. -/
def WrPre (R : Nat) (Q : Nat → Prop) (w0 : World) (d : Nat) (w : World) (v : Value) (acc : List UInt8) (e : Int) : Prop := e = 0 → OwnB w 0 v acc ∧ AccIn R Q w0 v ∧ acc.length + d ≤ 1000000000
/-- What writing a part comes to. -/
def WrPost (R : Nat) (r : Except Int (List UInt8)) (w : World) (v : Value) (acc : List UInt8) (e : Int) (en : Ending) (w' : World) : Prop :=
  en = .returned (.tuple #[]) ∧ Only (fun i => i = R ∨ (e = 0 ∧ v.ownBlock = some i)) w w' ∧ ∃ v' e', OwnL w' R (roadC v' 0 false e') ∧
    ((e ≠ 0 ∧ e' = e ∧ v' = v) ∨ (e = 0 ∧ ((e' = 0 ∧ ∃ bs, r = .ok bs ∧ OwnB w' 0 v' (acc ++ bs) ∧ Own2 w v v') ∨ (e' ≠ 0 ∧ ∃ er, r = .error er))))
theorem WrPart.any {f : Nat} {cap : Array Value} {wr : σ → Except Int (List UInt8)} {d : Nat} (h : WrPart Rep R Q w0 f cap wr d) {s : σ} {v : Value} {e : Int} {acc : List UInt8} (ho : Only Q w0 w) (hR : Rep w s) (hO : OwnL w R (roadC v 0 false e)) (hp : WrPre R Q w0 d w v acc e) :
    Calls Tryz.prog f (#[.pointer (some ⟨R, 0, none⟩)] ++ cap) w (WrPost R (wr s) w v acc e) := by
  by_cases he : e = 0
  · subst he
    obtain ⟨h1, h2, h3⟩ := hp rfl
    refine Calls.mono (h.go w s v acc ho hR hO h1 h2 h3) ?_
    rintro en w' ⟨rfl, o1, v', e', hO', hr⟩
    exact ⟨rfl, o1.mono (fun i _ h => h.imp id fun h => ⟨rfl, h⟩), v', e', hO', .inr ⟨rfl, hr⟩⟩
  · refine Calls.mono (h.skip w s v e ho hR he hO) ?_
    rintro en w' ⟨rfl, o1, hO'⟩
    exact ⟨rfl, o1.mono (fun i _ h => .inl h), v, e, hO', .inl ⟨he, rfl, rfl⟩⟩
theorem WrPart.of_any {f : Nat} {cap : Array Value} {wr : σ → Except Int (List UInt8)} {d : Nat} (hf : Enters Tryz.prog f) (hl : ∀ w s bs, Rep w s → wr s = .ok bs → bs.length ≤ d)
    (h : ∀ w s v e acc, Only Q w0 w → Rep w s → OwnL w R (roadC v 0 false e) → WrPre R Q w0 d w v acc e → Calls Tryz.prog f (#[.pointer (some ⟨R, 0, none⟩)] ++ cap) w (WrPost R (wr s) w v acc e)) : WrPart Rep R Q w0 f cap wr d where
  fn := hf
  len := hl
  skip w s v e ho hR he hO := by
    refine Calls.mono (h w s v e [] ho hR hO (fun h => absurd h he)) ?_
    rintro en w' ⟨rfl, o1, v', e', hO', ⟨_, rfl, rfl⟩ | ⟨h, _⟩⟩
    · exact ⟨rfl, o1.mono (fun i _ h => h.elim id fun h => absurd h.1 he), hO'⟩
    · exact absurd h he
  go w s v acc ho hR hO h1 h2 h3 := by
    refine Calls.mono (h w s v 0 acc ho hR hO (fun _ => ⟨h1, h2, h3⟩)) ?_
    rintro en w' ⟨rfl, o1, v', e', hO', ⟨h, _⟩ | ⟨_, hr⟩⟩
    · exact absurd rfl h
    · exact ⟨rfl, o1.mono (fun i _ h => h.imp id And.right), v', e', hO', hr⟩
theorem WrPre.below {d : Nat} {v : Value} {acc : List UInt8} {e : Int} {w' : World} (h : WrPre R Q w0 d w v acc e) (hb : Below w.heap.size w w') : WrPre R Q w0 d w' v acc e := fun he => ⟨(h he).1.below hb, (h he).2⟩
theorem WrPre.one {d : Nat} {v : Value} {acc : List UInt8} {e : Int} {w' : World} (h : WrPre R Q w0 d w v acc e) (ho : Only (· = R) w w') : WrPre R Q w0 d w' v acc e := fun he => ⟨(h he).1.only ho fun g hg e => ((h he).2.1 g hg).1 e, (h he).2⟩
theorem WrPre.less {d d' : Nat} {v : Value} {acc : List UInt8} {e : Int} (h : WrPre R Q w0 d w v acc e) (hd : d' ≤ d) : WrPre R Q w0 d' w v acc e := fun he => ⟨(h he).1, (h he).2.1, by have := (h he).2.2; omega⟩
theorem WrPre.of {d : Nat} {v : Value} {acc : List UInt8} {e e' : Int} (h : WrPre R Q w0 d w v acc e) (he : e' = 0 → e = 0) : WrPre R Q w0 d w v acc e' := fun h' => h (he h')
/-- What a step of the writing leaves as it was, seen from the beginning. -/
theorem Only.stepW {v : Value} {e : Int} {w' : World} (ho : Only Q w0 w) (h : Only (fun i => i = R ∨ (e = 0 ∧ v.ownBlock = some i)) w w') (hR : Q R) (ha : e = 0 → AccIn R Q w0 v) : Only Q w0 w' :=
  ho.then_ h fun i hi hw => by
    rcases hw with rfl | ⟨he, hw⟩
    · exact hR
    · rcases (ha he i hw).2 with h | h
      · exact h
      · omega
theorem RepW.stepW {s : σ} {v : Value} {e : Int} {w' : World} (h : RepW Rep R Q w0) (hR : Rep w s) (ha : e = 0 → AccIn R Q w0 v) (ho : Only (fun i => i = R ∨ (e = 0 ∧ v.ownBlock = some i)) w w') : Rep w' s :=
  h.frW _ _ _ hR (ho.mono fun i _ hw => by
    rcases hw with rfl | ⟨he, hw⟩
    · exact .inl h.inR
    · exact (ha he i hw).2)
theorem WrPre.acc {d : Nat} {v : Value} {acc : List UInt8} {e : Int} (h : WrPre R Q w0 d w v acc e) : e = 0 → AccIn R Q w0 v := fun he => (h he).2.1
theorem mustE_true (rd : Bool) (e : Int) : mustE rd e true = e := by
  unfold mustE
  by_cases h : e = 0
  · rw [if_pos h, if_pos rfl, h]
  · rw [if_neg h]
theorem mustE_ne {rd b : Bool} {e : Int} (h : e ≠ 0) : mustE rd e b = e := if_neg h
theorem mustE_zero {rd b : Bool} {e : Int} (h : mustE rd e b = 0) : e = 0 := by
  by_cases he : e = 0
  · exact he
  · rw [mustE_ne he] at h; exact h
theorem Own2.earlier {w1 : World} {v v' : Value} (h : Own2 w1 v v') (hs : w.heap.size ≤ w1.heap.size) : Own2 w v v' := h.imp id fun h g hg => Nat.le_trans hs (h g hg)
theorem Do_any {ps : List (Value × (σ → Ps σ))} {v bv : Value} {s : σ} {k : Nat} {e : Int} {xs : List UInt8} (hp : ∀ p ∈ ps, IsRd Rep R P w0 p.1 p.2) (hv : PL w0 v (ps.map (·.1))) (hn : ∀ g, Value.inBlock v = some g → ¬ P g)
    (ho : Only P w0 w) (hR : Rep w s) (hO : OwnL w R (roadC bv k true e)) (hpre : RdPre P w bv k e xs) :
    Calls Tryz.prog 24 #[.pointer (some ⟨R, 0, none⟩), v] w (PtPost Rep R P (seqP (ps.map (·.2))) w s bv k e xs) := by
  by_cases he : e = 0
  · subst he
    obtain ⟨h1, h2, h3, h4⟩ := hpre rfl
    refine Calls.mono (Do_goR hp hv hn ho hR hO h1 h2 h3 h4) ?_
    rintro en w' ⟨rfl, o1, s', k', e', hO', hR', hr⟩
    exact ⟨rfl, o1, s', k', e', hO', hR', .inr ⟨rfl, hr⟩⟩
  · refine Calls.mono (Do_skipR hp hv hn ho hR he hO) ?_
    rintro en w' ⟨rfl, o1, hO', s', hR'⟩
    exact ⟨rfl, o1, s', k, e, hO', hR', .inl ⟨he, rfl, rfl⟩⟩
theorem Do_anyW {ps : List (Value × (σ → Except Int (List UInt8)))} {v bv : Value} {s : σ} {d : Nat} {e : Int} {acc : List UInt8} (hW : RepW Rep R Q w0) (hp : ∀ p ∈ ps, IsWr Rep R Q w0 p.1 p.2 d) (hv : PL w0 v (ps.map (·.1))) (hn : ∀ g, Value.inBlock v = some g → ¬ Q g)
    (ho : Only Q w0 w) (hR : Rep w s) (hO : OwnL w R (roadC bv 0 false e)) (hpre : WrPre R Q w0 (ps.length * d) w bv acc e) :
    Calls Tryz.prog 24 #[.pointer (some ⟨R, 0, none⟩), v] w (WrPost R (seqQ (ps.map (·.2)) s) w bv acc e) := by
  by_cases he : e = 0
  · subst he
    obtain ⟨h1, h2, h3⟩ := hpre rfl
    refine Calls.mono (Do_goW hW hp hv hn ho hR hO h1 h2 h3) ?_
    rintro en w' ⟨rfl, o1, v', e', hO', hr⟩
    exact ⟨rfl, o1.mono (fun i _ h => h.imp id fun h => ⟨rfl, h⟩), v', e', hO', .inr ⟨rfl, hr⟩⟩
  · refine Calls.mono (Do_skipW hW hp hv hn ho hR he hO) ?_
    rintro en w' ⟨rfl, o1, hO'⟩
    exact ⟨rfl, o1.mono (fun i _ h => .inl h), bv, e, hO', .inl ⟨he, rfl, rfl⟩⟩
end Go.Proofs.YtgmhapjidbdhnaaGreat
namespace Go.Proofs.YtgmhapjidbdhnaaGreat
open Go.RowKit
/-- What parts.short hands on to get with. -/
def ShortG (w : World) (lo : Nat) (gv : Value) (f : Nat) (n : Int) (g : Value) : Prop :=
  ∃ Gb Nb, gv = .func (.func f) #[] #[.pointer (some ⟨Gb, 0, none⟩), .pointer (some ⟨Nb, 0, none⟩)] ∧ lo ≤ Gb ∧ Gb < w.heap.size ∧ lo ≤ Nb ∧ Nb < w.heap.size ∧ w.cell? ⟨Gb, 0, none⟩ = some g ∧ w.cell? ⟨Nb, 0, none⟩ = some (.int .i64 n)
/-- .. to put with. -/
def ShortP (w : World) (lo : Nat) (pv : Value) (f : Nat) (g : Value) : Prop :=
  ∃ Gb, pv = .func (.func f) #[] #[.pointer (some ⟨Gb, 0, none⟩)] ∧ lo ≤ Gb ∧ Gb < w.heap.size ∧ w.cell? ⟨Gb, 0, none⟩ = some g
theorem ShortG.later {w w' : World} {lo f : Nat} {n : Int} {gv g : Value} (h : ShortG w lo gv f n g) {P : Nat → Prop} (ho : Only P w w') (hP : ∀ i, lo ≤ i → i < w.heap.size → ¬ P i) : ShortG w' lo gv f n g := by
  obtain ⟨Gb, Nb, e, a1, a2, a3, a4, c1, c2⟩ := h
  exact ⟨Gb, Nb, e, a1, Nat.lt_of_lt_of_le a2 ho.size, a3, Nat.lt_of_lt_of_le a4 ho.size, (ho.cell (a := ⟨Gb, 0, none⟩) a2 (hP _ a1 a2)).trans c1, (ho.cell (a := ⟨Nb, 0, none⟩) a4 (hP _ a3 a4)).trans c2⟩
theorem ShortP.later {w w' : World} {lo f : Nat} {pv g : Value} (h : ShortP w lo pv f g) {P : Nat → Prop} (ho : Only P w w') (hP : ∀ i, lo ≤ i → i < w.heap.size → ¬ P i) : ShortP w' lo pv f g := by
  obtain ⟨Gb, e, a1, a2, c1⟩ := h
  exact ⟨Gb, e, a1, Nat.lt_of_lt_of_le a2 ho.size, (ho.cell (a := ⟨Gb, 0, none⟩) a2 (hP _ a1 a2)).trans c1⟩
/-- What parts.short makes. -/
def ShortShape (fo f1 f2 : Nat) (n : Int) (g p : Value) (w : World) (lo : Nat) (fv : Value) (T o : Nat) : Prop :=
  ∃ gv pv, OfShape fo w lo fv gv pv T o ∧ ShortG w lo gv f1 n g ∧ ShortP w lo pv f2 p
theorem ShortShape.later {fo f1 f2 : Nat} {n : Int} {g p : Value} {w w' : World} {lo T o : Nat} {fv : Value} (h : ShortShape fo f1 f2 n g p w lo fv T o) {P : Nat → Prop} (ho : Only P w w') (hP : ∀ i, lo ≤ i → i < w.heap.size → ¬ P i) : ShortShape fo f1 f2 n g p w' lo fv T o := by
  obtain ⟨gv, pv, h1, h2, h3⟩ := h
  exact ⟨gv, pv, h1.later ho hP, h2.later ho hP, h3.later ho hP⟩
theorem OfShape.low {f : Nat} {w : World} {lo lo' : Nat} {fv gv pv : Value} {T o : Nat} (h : OfShape f w lo fv gv pv T o) (hl : lo' ≤ lo) : OfShape f w lo' fv gv pv T o := by
  obtain ⟨X, G, Pb, e, a1, a2, a3, a4, a5, a6, c⟩ := h.box
  exact ⟨X, G, Pb, e, by omega, a2, by omega, a4, by omega, a6, c⟩
theorem ShortG.low {w : World} {lo lo' f : Nat} {n : Int} {gv g : Value} (h : ShortG w lo gv f n g) (hl : lo' ≤ lo) : ShortG w lo' gv f n g := by
  obtain ⟨Gb, Nb, e, a1, a2, a3, a4, c⟩ := h
  exact ⟨Gb, Nb, e, by omega, a2, by omega, a4, c⟩
theorem ShortP.low {w : World} {lo lo' f : Nat} {pv g : Value} (h : ShortP w lo pv f g) (hl : lo' ≤ lo) : ShortP w lo' pv f g := by
  obtain ⟨Gb, e, a1, a2, c⟩ := h
  exact ⟨Gb, e, by omega, a2, c⟩
theorem ShortShape.low {fo f1 f2 : Nat} {n : Int} {g p : Value} {w : World} {lo lo' T o : Nat} {fv : Value} (h : ShortShape fo f1 f2 n g p w lo fv T o) (hl : lo' ≤ lo) : ShortShape fo f1 f2 n g p w lo' fv T o := by
  obtain ⟨gv, pv, h1, h2, h3⟩ := h
  exact ⟨gv, pv, h1.low hl, h2.low hl, h3.low hl⟩
theorem of32_mk {T o gf pf : Nat} {gc pc : Array Value} {w : World} : Calls Tryz.prog 105 #[.pointer (some ⟨T, o, none⟩), .func (.func gf) #[] gc, .func (.func pf) #[] pc] w fun e w' => ∃ fv, e = .returned fv ∧ Below w.heap.size w w' ∧ OfShape 120 w' w.heap.size fv (.func (.func gf) #[] gc) (.func (.func pf) #[] pc) T o := by
  go_enter Tryz.func105, Tryz.ntmps105
  go_wp2
  go_ret
  exact ⟨_, rfl, by (with_reducible (repeat' (first | exact Below.refl _ _ | assumption | apply bl_alloc | apply bl_drewN | apply bl_drew | refine bl_set ?_ ?_ _))) <;> (first | done | (simp; done) | (simp; omega) | omega), ⟨w.heap.size, w.heap.size + 1, w.heap.size + 1 + 1, rfl, Nat.le_refl _, by simp; try omega, by omega, by simp; try omega, by omega, by simp; try omega, by simp [go_sem], by simp [go_sem], by simp [go_sem]⟩⟩
theorem of64_mk {T o gf pf : Nat} {gc pc : Array Value} {w : World} : Calls Tryz.prog 101 #[.pointer (some ⟨T, o, none⟩), .func (.func gf) #[] gc, .func (.func pf) #[] pc] w fun e w' => ∃ fv, e = .returned fv ∧ Below w.heap.size w w' ∧ OfShape 119 w' w.heap.size fv (.func (.func gf) #[] gc) (.func (.func pf) #[] pc) T o := by
  go_enter Tryz.func101, Tryz.ntmps101
  go_wp2
  go_ret
  exact ⟨_, rfl, by (with_reducible (repeat' (first | exact Below.refl _ _ | assumption | apply bl_alloc | apply bl_drewN | apply bl_drew | refine bl_set ?_ ?_ _))) <;> (first | done | (simp; done) | (simp; omega) | omega), ⟨w.heap.size, w.heap.size + 1, w.heap.size + 1 + 1, rfl, Nat.le_refl _, by simp; try omega, by omega, by simp; try omega, by omega, by simp; try omega, by simp [go_sem], by simp [go_sem], by simp [go_sem]⟩⟩
theorem ofY_mk {T o gf pf : Nat} {gc pc : Array Value} {w : World} : Calls Tryz.prog 121 #[.pointer (some ⟨T, o, none⟩), .func (.func gf) #[] gc, .func (.func pf) #[] pc] w fun e w' => ∃ fv, e = .returned fv ∧ Below w.heap.size w w' ∧ OfShape 127 w' w.heap.size fv (.func (.func gf) #[] gc) (.func (.func pf) #[] pc) T o := by
  go_enter Tryz.func121, Tryz.ntmps121
  go_wp2
  go_ret
  exact ⟨_, rfl, by (with_reducible (repeat' (first | exact Below.refl _ _ | assumption | apply bl_alloc | apply bl_drewN | apply bl_drew | refine bl_set ?_ ?_ _))) <;> (first | done | (simp; done) | (simp; omega) | omega), ⟨w.heap.size, w.heap.size + 1, w.heap.size + 1 + 1, rfl, Nat.le_refl _, by simp; try omega, by omega, by simp; try omega, by omega, by simp; try omega, by simp [go_sem], by simp [go_sem], by simp [go_sem]⟩⟩
theorem ofB_mk {T o gf pf : Nat} {gc pc : Array Value} {w : World} : Calls Tryz.prog 60 #[.pointer (some ⟨T, o, none⟩), .func (.func gf) #[] gc, .func (.func pf) #[] pc] w fun e w' => ∃ fv, e = .returned fv ∧ Below w.heap.size w w' ∧ OfShape 91 w' w.heap.size fv (.func (.func gf) #[] gc) (.func (.func pf) #[] pc) T o := by
  go_enter Tryz.func60, Tryz.ntmps60
  go_wp2
  go_ret
  exact ⟨_, rfl, by (with_reducible (repeat' (first | exact Below.refl _ _ | assumption | apply bl_alloc | apply bl_drewN | apply bl_drew | refine bl_set ?_ ?_ _))) <;> (first | done | (simp; done) | (simp; omega) | omega), ⟨w.heap.size, w.heap.size + 1, w.heap.size + 1 + 1, rfl, Nat.le_refl _, by simp; try omega, by omega, by simp; try omega, by omega, by simp; try omega, by simp [go_sem], by simp [go_sem], by simp [go_sem]⟩⟩
theorem ofS_mk {T o gf pf : Nat} {gc pc : Array Value} {w : World} : Calls Tryz.prog 64 #[.pointer (some ⟨T, o, none⟩), .func (.func gf) #[] gc, .func (.func pf) #[] pc] w fun e w' => ∃ fv, e = .returned fv ∧ Below w.heap.size w w' ∧ OfShape 93 w' w.heap.size fv (.func (.func gf) #[] gc) (.func (.func pf) #[] pc) T o := by
  go_enter Tryz.func64, Tryz.ntmps64
  go_wp2
  go_ret
  exact ⟨_, rfl, by (with_reducible (repeat' (first | exact Below.refl _ _ | assumption | apply bl_alloc | apply bl_drewN | apply bl_drew | refine bl_set ?_ ?_ _))) <;> (first | done | (simp; done) | (simp; omega) | omega), ⟨w.heap.size, w.heap.size + 1, w.heap.size + 1 + 1, rfl, Nat.le_refl _, by simp; try omega, by omega, by simp; try omega, by omega, by simp; try omega, by simp [go_sem], by simp [go_sem], by simp [go_sem]⟩⟩
theorem ofV_mk {T o gf pf : Nat} {gc pc : Array Value} {w : World} : Calls Tryz.prog 74 #[.pointer (some ⟨T, o, none⟩), .func (.func gf) #[] gc, .func (.func pf) #[] pc] w fun e w' => ∃ fv, e = .returned fv ∧ Below w.heap.size w w' ∧ OfShape 109 w' w.heap.size fv (.func (.func gf) #[] gc) (.func (.func pf) #[] pc) T o := by
  go_enter Tryz.func74, Tryz.ntmps74
  go_wp2
  go_ret
  exact ⟨_, rfl, by (with_reducible (repeat' (first | exact Below.refl _ _ | assumption | apply bl_alloc | apply bl_drewN | apply bl_drew | refine bl_set ?_ ?_ _))) <;> (first | done | (simp; done) | (simp; omega) | omega), ⟨w.heap.size, w.heap.size + 1, w.heap.size + 1 + 1, rfl, Nat.le_refl _, by simp; try omega, by omega, by simp; try omega, by omega, by simp; try omega, by simp [go_sem], by simp [go_sem], by simp [go_sem]⟩⟩
theorem ofSet_mk {T o gf pf : Nat} {gc pc : Array Value} {w : World} : Calls Tryz.prog 68 #[.pointer (some ⟨T, o, none⟩), .func (.func gf) #[] gc, .func (.func pf) #[] pc] w fun e w' => ∃ fv, e = .returned fv ∧ Below w.heap.size w w' ∧ OfShape 94 w' w.heap.size fv (.func (.func gf) #[] gc) (.func (.func pf) #[] pc) T o := by
  go_enter Tryz.func68, Tryz.ntmps68
  go_wp2
  go_ret
  exact ⟨_, rfl, by (with_reducible (repeat' (first | exact Below.refl _ _ | assumption | apply bl_alloc | apply bl_drewN | apply bl_drew | refine bl_set ?_ ?_ _))) <;> (first | done | (simp; done) | (simp; omega) | omega), ⟨w.heap.size, w.heap.size + 1, w.heap.size + 1 + 1, rfl, Nat.le_refl _, by simp; try omega, by omega, by simp; try omega, by omega, by simp; try omega, by simp [go_sem], by simp [go_sem], by simp [go_sem]⟩⟩
theorem ofT_mk {T o gf pf : Nat} {gc pc : Array Value} {w : World} : Calls Tryz.prog 112 #[.pointer (some ⟨T, o, none⟩), .func (.func gf) #[] gc, .func (.func pf) #[] pc] w fun e w' => ∃ fv, e = .returned fv ∧ Below w.heap.size w w' ∧ OfShape 124 w' w.heap.size fv (.func (.func gf) #[] gc) (.func (.func pf) #[] pc) T o := by
  go_enter Tryz.func112, Tryz.ntmps112
  go_wp2
  go_ret
  exact ⟨_, rfl, by (with_reducible (repeat' (first | exact Below.refl _ _ | assumption | apply bl_alloc | apply bl_drewN | apply bl_drew | refine bl_set ?_ ?_ _))) <;> (first | done | (simp; done) | (simp; omega) | omega), ⟨w.heap.size, w.heap.size + 1, w.heap.size + 1 + 1, rfl, Nat.le_refl _, by simp; try omega, by omega, by simp; try omega, by omega, by simp; try omega, by simp [go_sem], by simp [go_sem], by simp [go_sem]⟩⟩
theorem short32_mk {T o gf pf : Nat} {n : Int} {w : World} : Calls Tryz.prog 72 #[.pointer (some ⟨T, o, none⟩), .int .i64 n, .func (.func gf) #[] #[], .func (.func pf) #[] #[]] w fun e w' => ∃ fv, e = .returned fv ∧ Below w.heap.size w w' ∧ ShortShape 120 106 107 n (.func (.func gf) #[] #[]) (.func (.func pf) #[] #[]) w' w.heap.size fv T o := by
  go_enter Tryz.func72, Tryz.ntmps72
  go_wp2_with (go_at_call 105; (refine Calls.mono of32_mk ?_); rintro e w1 ⟨fv, rfl, b1, s1⟩)
  go_ret
  have hz := b1.size
  have hc := (bcell b1).1
  simp at hz
  refine ⟨_, rfl, bl_then (by (with_reducible (repeat' (first | exact Below.refl _ _ | assumption | apply bl_alloc | apply bl_drewN | apply bl_drew | refine bl_set ?_ ?_ _))) <;> (first | done | (simp; done) | (simp; omega) | omega)) b1, _, _, s1.low (by simp; omega), ⟨w.heap.size + 1, w.heap.size, rfl, by omega, by omega, by omega, by omega, ?_, ?_⟩, ⟨w.heap.size + 1 + 1, rfl, by omega, by omega, ?_⟩⟩
  · rw [hc _ _ (by simp)]; simp [go_sem]
  · rw [hc _ _ (by simp; omega)]; simp [go_sem]
  · rw [hc _ _ (by simp)]; simp [go_sem]
theorem short64_mk {T o gf pf : Nat} {n : Int} {w : World} : Calls Tryz.prog 70 #[.pointer (some ⟨T, o, none⟩), .int .i64 n, .func (.func gf) #[] #[], .func (.func pf) #[] #[]] w fun e w' => ∃ fv, e = .returned fv ∧ Below w.heap.size w w' ∧ ShortShape 119 102 103 n (.func (.func gf) #[] #[]) (.func (.func pf) #[] #[]) w' w.heap.size fv T o := by
  go_enter Tryz.func70, Tryz.ntmps70
  go_wp2_with (go_at_call 101; (refine Calls.mono of64_mk ?_); rintro e w1 ⟨fv, rfl, b1, s1⟩)
  go_ret
  have hz := b1.size
  have hc := (bcell b1).1
  simp at hz
  refine ⟨_, rfl, bl_then (by (with_reducible (repeat' (first | exact Below.refl _ _ | assumption | apply bl_alloc | apply bl_drewN | apply bl_drew | refine bl_set ?_ ?_ _))) <;> (first | done | (simp; done) | (simp; omega) | omega)) b1, _, _, s1.low (by simp; omega), ⟨w.heap.size + 1, w.heap.size, rfl, by omega, by omega, by omega, by omega, ?_, ?_⟩, ⟨w.heap.size + 1 + 1, rfl, by omega, by omega, ?_⟩⟩
  · rw [hc _ _ (by simp)]; simp [go_sem]
  · rw [hc _ _ (by simp; omega)]; simp [go_sem]
  · rw [hc _ _ (by simp)]; simp [go_sem]
theorem shortY_mk {T o gf pf : Nat} {n : Int} {w : World} : Calls Tryz.prog 110 #[.pointer (some ⟨T, o, none⟩), .int .i64 n, .func (.func gf) #[] #[], .func (.func pf) #[] #[]] w fun e w' => ∃ fv, e = .returned fv ∧ Below w.heap.size w w' ∧ ShortShape 127 122 123 n (.func (.func gf) #[] #[]) (.func (.func pf) #[] #[]) w' w.heap.size fv T o := by
  go_enter Tryz.func110, Tryz.ntmps110
  go_wp2_with (go_at_call 121; (refine Calls.mono ofY_mk ?_); rintro e w1 ⟨fv, rfl, b1, s1⟩)
  go_ret
  have hz := b1.size
  have hc := (bcell b1).1
  simp at hz
  refine ⟨_, rfl, bl_then (by (with_reducible (repeat' (first | exact Below.refl _ _ | assumption | apply bl_alloc | apply bl_drewN | apply bl_drew | refine bl_set ?_ ?_ _))) <;> (first | done | (simp; done) | (simp; omega) | omega)) b1, _, _, s1.low (by simp; omega), ⟨w.heap.size + 1, w.heap.size, rfl, by omega, by omega, by omega, by omega, ?_, ?_⟩, ⟨w.heap.size + 1 + 1, rfl, by omega, by omega, ?_⟩⟩
  · rw [hc _ _ (by simp)]; simp [go_sem]
  · rw [hc _ _ (by simp; omega)]; simp [go_sem]
  · rw [hc _ _ (by simp)]; simp [go_sem]
theorem shortT_mk {T o gf pf : Nat} {n : Int} {w : World} : Calls Tryz.prog 82 #[.pointer (some ⟨T, o, none⟩), .int .i64 n, .func (.func gf) #[] #[], .func (.func pf) #[] #[]] w fun e w' => ∃ fv, e = .returned fv ∧ Below w.heap.size w w' ∧ ShortShape 124 113 114 n (.func (.func gf) #[] #[]) (.func (.func pf) #[] #[]) w' w.heap.size fv T o := by
  go_enter Tryz.func82, Tryz.ntmps82
  go_wp2_with (go_at_call 112; (refine Calls.mono ofT_mk ?_); rintro e w1 ⟨fv, rfl, b1, s1⟩)
  go_ret
  have hz := b1.size
  have hc := (bcell b1).1
  simp at hz
  refine ⟨_, rfl, bl_then (by (with_reducible (repeat' (first | exact Below.refl _ _ | assumption | apply bl_alloc | apply bl_drewN | apply bl_drew | refine bl_set ?_ ?_ _))) <;> (first | done | (simp; done) | (simp; omega) | omega)) b1, _, _, s1.low (by simp; omega), ⟨w.heap.size + 1, w.heap.size, rfl, by omega, by omega, by omega, by omega, ?_, ?_⟩, ⟨w.heap.size + 1 + 1, rfl, by omega, by omega, ?_⟩⟩
  · rw [hc _ _ (by simp)]; simp [go_sem]
  · rw [hc _ _ (by simp; omega)]; simp [go_sem]
  · rw [hc _ _ (by simp)]; simp [go_sem]
/-- What parts.Number makes. -/
def NumberShape : World → Nat → Value → Nat → Nat → Prop := ShortShape 120 106 107 4 (.func (.func 73) #[] #[]) (.func (.func 20) #[] #[])
theorem Number_mk {T o : Nat} {w : World} : Calls Tryz.prog 41 #[.pointer (some ⟨T, o, none⟩)] w fun e w' => ∃ fv, e = .returned fv ∧ Below w.heap.size w w' ∧ NumberShape w' w.heap.size fv T o := by
  go_enter Tryz.func41, Tryz.ntmps41
  go_wp2_with (go_at_call 72; (refine Calls.mono short32_mk ?_); rintro e w1 ⟨fv, rfl, b1, s1⟩)
  go_ret
  exact ⟨_, rfl, b1, s1⟩
/-- What parts.Long makes. -/
def LongShape : World → Nat → Value → Nat → Nat → Prop := ShortShape 119 102 103 8 (.func (.func 71) #[] #[]) (.func (.func 19) #[] #[])
theorem Long_mk {T o : Nat} {w : World} : Calls Tryz.prog 40 #[.pointer (some ⟨T, o, none⟩)] w fun e w' => ∃ fv, e = .returned fv ∧ Below w.heap.size w w' ∧ LongShape w' w.heap.size fv T o := by
  go_enter Tryz.func40, Tryz.ntmps40
  go_wp2_with (go_at_call 70; (refine Calls.mono short64_mk ?_); rintro e w1 ⟨fv, rfl, b1, s1⟩)
  go_ret
  exact ⟨_, rfl, b1, s1⟩
/-- What parts.Yes makes. -/
def YesShape : World → Nat → Value → Nat → Nat → Prop := ShortShape 127 122 123 4 (.func (.func 111) #[] #[]) (.func (.func 55) #[] #[])
theorem Yes_mk {T o : Nat} {w : World} : Calls Tryz.prog 79 #[.pointer (some ⟨T, o, none⟩)] w fun e w' => ∃ fv, e = .returned fv ∧ Below w.heap.size w w' ∧ YesShape w' w.heap.size fv T o := by
  go_enter Tryz.func79, Tryz.ntmps79
  go_wp2_with (go_at_call 110; (refine Calls.mono shortY_mk ?_); rintro e w1 ⟨fv, rfl, b1, s1⟩)
  go_ret
  exact ⟨_, rfl, b1, s1⟩
/-- What parts.Set makes. -/
def SetShape (w : World) (lo : Nat) (fv : Value) (T o : Nat) : Prop := OfShape 94 w lo fv (.func (.func 69) #[] #[]) (.func (.func 21) #[] #[]) T o
theorem Set_mk {T o : Nat} {w : World} : Calls Tryz.prog 39 #[.pointer (some ⟨T, o, none⟩)] w fun e w' => ∃ fv, e = .returned fv ∧ Below w.heap.size w w' ∧ SetShape w' w.heap.size fv T o := by
  go_enter Tryz.func39, Tryz.ntmps39
  go_wp2_with (go_at_call 68; (refine Calls.mono ofSet_mk ?_); rintro e w1 ⟨fv, rfl, b1, s1⟩)
  go_ret
  exact ⟨_, rfl, b1, s1⟩
/-- What parts.Verf makes. -/
def VerfShape (w : World) (lo : Nat) (fv : Value) (T o : Nat) : Prop := OfShape 109 w lo fv (.func (.func 75) #[] #[]) (.func (.func 77) #[] #[]) T o
theorem Verf_mk {T o : Nat} {w : World} : Calls Tryz.prog 42 #[.pointer (some ⟨T, o, none⟩)] w fun e w' => ∃ fv, e = .returned fv ∧ Below w.heap.size w w' ∧ VerfShape w' w.heap.size fv T o := by
  go_enter Tryz.func42, Tryz.ntmps42
  go_wp2_with (go_at_call 74; (refine Calls.mono ofV_mk ?_); rintro e w1 ⟨fv, rfl, b1, s1⟩)
  go_ret
  exact ⟨_, rfl, b1, s1⟩
/-- What parts.Bytes makes. -/
def BytesShape (most : Int) (w : World) (lo : Nat) (fv : Value) (T o : Nat) : Prop :=
  ∃ M, lo ≤ M ∧ M < w.heap.size ∧ w.cell? ⟨M, 0, none⟩ = some (.int .i64 most) ∧ OfShape 91 w lo fv (.func (.func 61) #[] #[.pointer (some ⟨M, 0, none⟩)]) (.func (.func 63) #[] #[.pointer (some ⟨M, 0, none⟩)]) T o
theorem BytesShape.later {w w' : World} {lo T o : Nat} {most : Int} {fv : Value} (h : BytesShape most w lo fv T o) {P : Nat → Prop} (ho : Only P w w') (hP : ∀ i, lo ≤ i → i < w.heap.size → ¬ P i) : BytesShape most w' lo fv T o := by
  obtain ⟨M, a1, a2, c, s⟩ := h
  exact ⟨M, a1, Nat.lt_of_lt_of_le a2 ho.size, (ho.cell (a := ⟨M, 0, none⟩) a2 (hP _ a1 a2)).trans c, s.later ho hP⟩
theorem BytesShape.low {w : World} {lo lo' T o : Nat} {most : Int} {fv : Value} (h : BytesShape most w lo fv T o) (hl : lo' ≤ lo) : BytesShape most w lo' fv T o := by
  obtain ⟨M, a1, a2, c, s⟩ := h
  exact ⟨M, by omega, a2, c, s.low hl⟩
theorem Bytes_mk {T o : Nat} {most : Int} {w : World} : Calls Tryz.prog 37 #[.pointer (some ⟨T, o, none⟩), .int .i64 most] w fun e w' => ∃ fv, e = .returned fv ∧ Below w.heap.size w w' ∧ BytesShape most w' w.heap.size fv T o := by
  go_enter Tryz.func37, Tryz.ntmps37
  go_wp2_with (go_at_call 60; (refine Calls.mono ofB_mk ?_); rintro e w1 ⟨fv, rfl, b1, s1⟩)
  go_ret
  have hz := b1.size
  have hc := (bcell b1).1
  simp at hz
  refine ⟨_, rfl, bl_then (by (with_reducible (repeat' (first | exact Below.refl _ _ | assumption | apply bl_alloc | apply bl_drewN | apply bl_drew | refine bl_set ?_ ?_ _))) <;> (first | done | (simp; done) | (simp; omega) | omega)) b1, w.heap.size, Nat.le_refl _, by omega, ?_, s1.low (by simp)⟩
  rw [hc _ _ (by simp)]; simp [go_sem]
/-- What parts.Text makes. -/
def TextShape (most : Int) (w : World) (lo : Nat) (fv : Value) (T o : Nat) : Prop :=
  ∃ M, lo ≤ M ∧ M < w.heap.size ∧ w.cell? ⟨M, 0, none⟩ = some (.int .i64 most) ∧ OfShape 93 w lo fv (.func (.func 65) #[] #[.pointer (some ⟨M, 0, none⟩)]) (.func (.func 67) #[] #[.pointer (some ⟨M, 0, none⟩)]) T o
theorem TextShape.later {w w' : World} {lo T o : Nat} {most : Int} {fv : Value} (h : TextShape most w lo fv T o) {P : Nat → Prop} (ho : Only P w w') (hP : ∀ i, lo ≤ i → i < w.heap.size → ¬ P i) : TextShape most w' lo fv T o := by
  obtain ⟨M, a1, a2, c, s⟩ := h
  exact ⟨M, a1, Nat.lt_of_lt_of_le a2 ho.size, (ho.cell (a := ⟨M, 0, none⟩) a2 (hP _ a1 a2)).trans c, s.later ho hP⟩
theorem TextShape.low {w : World} {lo lo' T o : Nat} {most : Int} {fv : Value} (h : TextShape most w lo fv T o) (hl : lo' ≤ lo) : TextShape most w lo' fv T o := by
  obtain ⟨M, a1, a2, c, s⟩ := h
  exact ⟨M, by omega, a2, c, s.low hl⟩
theorem Text_mk {T o : Nat} {most : Int} {w : World} : Calls Tryz.prog 38 #[.pointer (some ⟨T, o, none⟩), .int .i64 most] w fun e w' => ∃ fv, e = .returned fv ∧ Below w.heap.size w w' ∧ TextShape most w' w.heap.size fv T o := by
  go_enter Tryz.func38, Tryz.ntmps38
  go_wp2_with (go_at_call 64; (refine Calls.mono ofS_mk ?_); rintro e w1 ⟨fv, rfl, b1, s1⟩)
  go_ret
  have hz := b1.size
  have hc := (bcell b1).1
  simp at hz
  refine ⟨_, rfl, bl_then (by (with_reducible (repeat' (first | exact Below.refl _ _ | assumption | apply bl_alloc | apply bl_drewN | apply bl_drew | refine bl_set ?_ ?_ _))) <;> (first | done | (simp; done) | (simp; omega) | omega)) b1, w.heap.size, Nat.le_refl _, by omega, ?_, s1.low (by simp)⟩
  rw [hc _ _ (by simp)]; simp [go_sem]
end Go.Proofs.YtgmhapjidbdhnaaGreat
namespace Go.Proofs.YtgmhapjidbdhnaaGreat
open Go.RowKit
/-- A box of one cell, from lo on. -/
def Bx (w : World) (lo b : Nat) (v : Value) : Prop := lo ≤ b ∧ b < w.heap.size ∧ w.cell? ⟨b, 0, none⟩ = some v
theorem Bx.later {w w' : World} {lo b : Nat} {v : Value} (h : Bx w lo b v) {P : Nat → Prop} (ho : Only P w w') (hP : ∀ i, lo ≤ i → i < w.heap.size → ¬ P i) : Bx w' lo b v :=
  ⟨h.1, Nat.lt_of_lt_of_le h.2.1 ho.size, (ho.cell (a := ⟨b, 0, none⟩) h.2.1 (hP _ h.1 h.2.1)).trans h.2.2⟩
theorem Bx.low {w : World} {lo lo' b : Nat} {v : Value} (h : Bx w lo b v) (hl : lo' ≤ lo) : Bx w lo' b v := ⟨Nat.le_trans hl h.1, h.2⟩
theorem Bx.below {w w' : World} {lo b : Nat} {v : Value} (h : Bx w lo b v) (hb : Below w.heap.size w w') : Bx w' lo b v := ⟨h.1, Nat.lt_of_lt_of_le h.2.1 hb.size, ((bcell hb).1 _ 0 h.2.1).trans h.2.2⟩
def TimeIn : World → Nat → Value → Nat → Nat → Prop := ShortShape 124 113 114 8 (.func (.func 83) #[] #[]) (.func (.func 84) #[] #[])
/-- What parts.Time makes. -/
def TimeShape (w : World) (lo : Nat) (fv : Value) (T o : Nat) : Prop :=
  ∃ X Q qf qc, fv = .func (.func 85) #[] #[.pointer (some ⟨X, 0, none⟩), .pointer (some ⟨Q, 0, none⟩)] ∧ Bx w lo X (.pointer (some ⟨T, o, none⟩)) ∧ Bx w lo Q (.func (.func qf) #[] qc) ∧ TimeIn w lo (.func (.func qf) #[] qc) T o
theorem OfShape.isFunc {f : Nat} {w : World} {lo : Nat} {fv gv pv : Value} {T o : Nat} (h : OfShape f w lo fv gv pv T o) : ∃ qf qc, fv = .func (.func qf) #[] qc := by
  obtain ⟨X, G, Pb, e, _⟩ := h.box
  exact ⟨_, _, e⟩
set_option maxRecDepth 100000 in
theorem Time_mk {T o : Nat} {w : World} : Calls Tryz.prog 46 #[.pointer (some ⟨T, o, none⟩)] w fun e w' => ∃ fv, e = .returned fv ∧ Below w.heap.size w w' ∧ TimeShape w' w.heap.size fv T o := by
  go_enter Tryz.func46, Tryz.ntmps46
  go_wp2_with (go_at_call 82; (refine Calls.mono shortT_mk ?_); rintro e w1 ⟨fv, rfl, b1, s1⟩; (obtain ⟨gv, pv, s1, s2, s3⟩ := s1); (obtain ⟨qf, qc, rfl⟩ := s1.isFunc))
  go_ret
  have hz := b1.size
  have hc := (bcell b1).1
  simp at hz
  have hb2 : Below w1.heap.size w1 (w1.alloc (.cells #[.func (.func qf) #[] qc] 87)) := bl_alloc (Below.refl _ _) _
  have hB : Below w.heap.size w w1 := bl_then (by (with_reducible (repeat' (first | exact Below.refl _ _ | assumption | apply bl_alloc | apply bl_drewN | apply bl_drew | refine bl_set ?_ ?_ _))) <;> (first | done | (simp; done) | (simp; omega) | omega)) b1
  refine ⟨_, rfl, bl_then hB hb2, w.heap.size, w1.heap.size, qf, qc, rfl, ⟨Nat.le_refl _, by simp; omega, ?_⟩, ⟨by omega, by simp, by simp [go_sem]⟩, gv, pv, (s1.low (by simp)).later (Only.ne_ (fun _ => False) hb2) (fun _ _ _ h => h), (s2.low (by simp)).later (Only.ne_ (fun _ => False) hb2) (fun _ _ _ h => h), (s3.low (by simp)).later (Only.ne_ (fun _ => False) hb2) (fun _ _ _ h => h)⟩
  rw [(bcell hb2).1 _ _ (by omega), hc _ _ (by simp)]; simp [go_sem]
/-- What parts.Small makes. -/
def SmallShape (most : Int) (w : World) (lo : Nat) (fv : Value) (T o : Nat) : Prop :=
  ∃ X M Q qf qc, fv = .func (.func 87) #[] #[.pointer (some ⟨X, 0, none⟩), .pointer (some ⟨M, 0, none⟩), .pointer (some ⟨Q, 0, none⟩)] ∧ Bx w lo X (.pointer (some ⟨T, o, none⟩)) ∧ Bx w lo M (.int .u32 most) ∧ Bx w lo Q (.func (.func qf) #[] qc) ∧ NumberShape w lo (.func (.func qf) #[] qc) T o
set_option maxRecDepth 100000 in
theorem Small_mk {T o : Nat} {most : Int} {w : World} : Calls Tryz.prog 47 #[.pointer (some ⟨T, o, none⟩), .int .u32 most] w fun e w' => ∃ fv, e = .returned fv ∧ Below w.heap.size w w' ∧ SmallShape most w' w.heap.size fv T o := by
  go_enter Tryz.func47, Tryz.ntmps47
  go_wp2_with (go_at_call 41; (refine Calls.mono Number_mk ?_); rintro e w1 ⟨fv, rfl, b1, s1⟩; (obtain ⟨gv, pv, s1, s2, s3⟩ := s1); (obtain ⟨qf, qc, rfl⟩ := s1.isFunc))
  go_ret
  have hz := b1.size
  have hc := (bcell b1).1
  simp at hz
  have hb2 : Below w1.heap.size w1 (w1.alloc (.cells #[.func (.func qf) #[] qc] 87)) := bl_alloc (Below.refl _ _) _
  have hB : Below w.heap.size w w1 := bl_then (by (with_reducible (repeat' (first | exact Below.refl _ _ | assumption | apply bl_alloc | apply bl_drewN | apply bl_drew | refine bl_set ?_ ?_ _))) <;> (first | done | (simp; done) | (simp; omega) | omega)) b1
  refine ⟨_, rfl, bl_then hB hb2, w.heap.size, w.heap.size + 1, w1.heap.size, qf, qc, rfl, ⟨Nat.le_refl _, by simp; omega, ?_⟩, ⟨by omega, by simp; omega, ?_⟩, ⟨by omega, by simp, by simp [go_sem]⟩, gv, pv, (s1.low (by simp; omega)).later (Only.ne_ (fun _ => False) hb2) (fun _ _ _ h => h), (s2.low (by simp; omega)).later (Only.ne_ (fun _ => False) hb2) (fun _ _ _ h => h), (s3.low (by simp; omega)).later (Only.ne_ (fun _ => False) hb2) (fun _ _ _ h => h)⟩
  · rw [(bcell hb2).1 _ _ (by omega), hc _ _ (by simp; omega)]; simp [go_sem]
  · rw [(bcell hb2).1 _ _ (by omega), hc _ _ (by simp)]; simp [go_sem]
/-- What parts.If makes. -/
def IfShape (w : World) (lo : Nat) (fv iv lv : Value) : Prop :=
  ∃ I L, fv = .func (.func 88) #[] #[.pointer (some ⟨I, 0, none⟩), .pointer (some ⟨L, 0, none⟩)] ∧ Bx w lo I iv ∧ Bx w lo L lv
theorem If_mk {jf n c : Nat} {jc : Array Value} {A : Option Addr} {w : World} : Calls Tryz.prog 48 #[.func (.func jf) #[] jc, .slice A n c] w fun e w' => ∃ fv, e = .returned fv ∧ Below w.heap.size w w' ∧ IfShape w' w.heap.size fv (.func (.func jf) #[] jc) (.slice A n c) := by
  go_enter Tryz.func48, Tryz.ntmps48
  go_wp2
  go_ret
  exact ⟨_, rfl, by (with_reducible (repeat' (first | exact Below.refl _ _ | assumption | apply bl_alloc | apply bl_drewN | apply bl_drew | refine bl_set ?_ ?_ _))) <;> (first | done | (simp; done) | (simp; omega) | omega), w.heap.size, w.heap.size + 1, rfl, ⟨Nat.le_refl _, by simp; omega, by simp [go_sem]⟩, ⟨by omega, by simp, by simp [go_sem]⟩⟩
/-- What parts.Option makes. -/
def OptionShape (w : World) (lo : Nat) (fv : Value) (T o : Nat) (lv : Value) : Prop :=
  ∃ Y H L qf qc, fv = .func (.func 80) #[] #[.pointer (some ⟨Y, 0, none⟩), .pointer (some ⟨H, 0, none⟩), .pointer (some ⟨L, 0, none⟩)] ∧ Bx w lo Y (.func (.func qf) #[] qc) ∧ Bx w lo H (.pointer (some ⟨T, o, none⟩)) ∧ Bx w lo L lv ∧ YesShape w lo (.func (.func qf) #[] qc) T o
set_option maxRecDepth 100000 in
theorem Option_mk {T o n c : Nat} {A : Option Addr} {w : World} : Calls Tryz.prog 45 #[.pointer (some ⟨T, o, none⟩), .slice A n c] w fun e w' => ∃ fv, e = .returned fv ∧ Below w.heap.size w w' ∧ OptionShape w' w.heap.size fv T o (.slice A n c) := by
  go_enter Tryz.func45, Tryz.ntmps45
  go_wp2_with (go_at_call 79; (refine Calls.mono Yes_mk ?_); rintro e w1 ⟨fv, rfl, b1, s1⟩; (obtain ⟨gv, pv, s1, s2, s3⟩ := s1); (obtain ⟨qf, qc, rfl⟩ := s1.isFunc))
  go_ret
  have hz := b1.size
  have hc := (bcell b1).1
  simp at hz
  have hb2 : Below w1.heap.size w1 (w1.alloc (.cells #[.func (.func qf) #[] qc] 87)) := bl_alloc (Below.refl _ _) _
  have hB : Below w.heap.size w w1 := bl_then (by (with_reducible (repeat' (first | exact Below.refl _ _ | assumption | apply bl_alloc | apply bl_drewN | apply bl_drew | refine bl_set ?_ ?_ _))) <;> (first | done | (simp; done) | (simp; omega) | omega)) b1
  refine ⟨_, rfl, bl_then hB hb2, w1.heap.size, w.heap.size, w.heap.size + 1, qf, qc, rfl, ⟨by omega, by simp, by simp [go_sem]⟩, ⟨Nat.le_refl _, by simp; omega, ?_⟩, ⟨by omega, by simp; omega, ?_⟩, gv, pv, (s1.low (by simp; omega)).later (Only.ne_ (fun _ => False) hb2) (fun _ _ _ h => h), (s2.low (by simp; omega)).later (Only.ne_ (fun _ => False) hb2) (fun _ _ _ h => h), (s3.low (by simp; omega)).later (Only.ne_ (fun _ => False) hb2) (fun _ _ _ h => h)⟩
  · rw [(bcell hb2).1 _ _ (by omega), hc _ _ (by simp; omega)]; simp [go_sem]
  · rw [(bcell hb2).1 _ _ (by omega), hc _ _ (by simp)]; simp [go_sem]
end Go.Proofs.YtgmhapjidbdhnaaGreat
namespace Go.Proofs.YtgmhapjidbdhnaaGreat
open Go.RowKit
def eU32 : Nat → World → Nat → Value → Prop := fun _ _ y u => u = .int .u32 (y : Int) ∧ y < 4294967296
def eU64 : Nat → World → Nat → Value → Prop := fun _ _ y u => u = .int .u64 (y : Int) ∧ y < 18446744073709551616
def eBool : Nat → World → Bool → Value → Prop := fun _ _ y u => u = .bool y
def eByt : Nat → World → List UInt8 → Value → Prop := fun base w y u => OwnB w base u y
def eTxt : Nat → World → List UInt8 → Value → Prop := fun _ _ y u => u = strV y
def dU32 : World → Nat → Value → Prop := fun _ y u => u = .int .u32 (y : Int) ∧ y < 4294967296
def dU64 : World → Nat → Value → Prop := fun _ y u => u = .int .u64 (y : Int) ∧ y < 18446744073709551616
def dBool : World → Bool → Value → Prop := fun _ y u => u = .bool y
def dByt : World → List UInt8 → Value → Prop := fun w y u => Rd w u y
def dTxt : World → List UInt8 → Value → Prop := fun _ y u => u = strV y
theorem pNum_lt {xs : List UInt8} {y j : Nat} (h : pNum xs = .ok (y, j)) : y < 4294967296 ∧ j = 4 ∧ 4 ≤ xs.length := by
  unfold pNum at h
  split at h
  · cases h
  · injection h with h; injection h with h1 h2; subst h1; subst h2
    have hl := beN_lt (xs.take 4)
    rw [List.length_take, Nat.min_eq_left (by omega), show (256 : Nat) ^ 4 = 4294967296 by decide] at hl
    exact ⟨hl, rfl, by omega⟩
theorem pLong_lt {xs : List UInt8} {y j : Nat} (h : pLong xs = .ok (y, j)) : y < 18446744073709551616 ∧ j = 8 ∧ 8 ≤ xs.length := by
  unfold pLong at h
  split at h
  · cases h
  · injection h with h; injection h with h1 h2; subst h1; subst h2
    have hl := beN_lt (xs.take 8)
    rw [List.length_take, Nat.min_eq_left (by omega), show (256 : Nat) ^ 8 = 18446744073709551616 by decide] at hl
    exact ⟨hl, rfl, by omega⟩
set_option maxRecDepth 100000 in
set_option maxHeartbeats 1000000 in
theorem short32_get {P : Nat → Prop} {w0 : World} {lo : Nat} {gv : Value} (h : ShortG w0 lo gv 106 4 (.func (.func 73) #[] #[])) (hP : ∀ i, lo ≤ i → i < w0.heap.size → ¬ P i) : Getter (Only P w0) gv pNum eU32 := by
  obtain ⟨Gb, Nb, rfl, a1, a2, a3, a4, c1, c2⟩ := h
  refine ⟨_, _, rfl, fun args w => by kernel_rfl, fun w ho v xs hv hx => ?_⟩
  have g1 := (ho.cell (a := ⟨Gb, 0, none⟩) a2 (hP _ a1 a2)).trans c1
  have g2 := (ho.cell (a := ⟨Nb, 0, none⟩) a4 (hP _ a3 a4)).trans c2
  have hGl := Nat.lt_of_lt_of_le a2 ho.size
  have hNl := Nat.lt_of_lt_of_le a4 ho.size
  obtain ⟨A, c, rfl, hc1, hc2, hB, hnone⟩ := hv.bs
  clear hP ho a1 a2 a3 a4 c1 c2 hv hnone hc2
  show Calls Tryz.prog 106 #[.slice A xs.length c, .pointer (some ⟨Gb, 0, none⟩), .pointer (some ⟨Nb, 0, none⟩)] w _
  by_cases hs : xs.length < 4
  · have HG := Lib.hid (Get_short A xs.length c xs w hB hs)
    have HP := Lib.hid (show pNum xs = .error 4 by simp [pNum, hs])
    clear hB hc1 hs
    · skip
      go_enter Tryz.func106, Tryz.ntmps106
      go_wp2_with (go_at_call 73; (refine Calls.mono HG.out ?_); rintro e w1 ⟨rfl, rfl⟩)
      go_quiet (fail)
      go_wp2
      refine bodyPost_ret (v := .tuple #[.int .u32 0, .int .i64 4, .int .i64 4]) (by simp [results, Tryz.results106, go_sem]) rfl ⟨by (with_reducible (repeat' (first | exact Below.refl _ _ | assumption | apply bl_alloc | apply bl_drewN | apply bl_drew | refine bl_set ?_ ?_ _))) <;> (first | done | (simp; done) | (simp; omega) | omega), .inr ⟨4, _, _, HP.out, by decide, rfl⟩⟩
  · have HG := Lib.hid (Get_full A xs.length c xs w hB hc1 (by omega))
    have hp : pNum xs = .ok (beN (xs.take 4), 4) := by simp [pNum, hs]
    have HL := Lib.hid (pNum_lt hp)
    have HP := Lib.hid hp
    clear hB hc1 hs hp
    generalize beN (xs.take 4) = m at HG HP HL
    · skip
      go_enter Tryz.func106, Tryz.ntmps106
      go_wp2_with (go_at_call 73; (refine Calls.mono HG.out ?_); rintro e w1 ⟨rfl, rfl⟩)
      go_quiet (fail)
      go_wp2
      refine bodyPost_ret (v := .tuple #[.int .u32 m, .int .i64 4, .int .i64 0]) (by simp [results, Tryz.results106, go_sem]) rfl ⟨by (with_reducible (repeat' (first | exact Below.refl _ _ | assumption | apply bl_alloc | apply bl_drewN | apply bl_drew | refine bl_set ?_ ?_ _))) <;> (first | done | (simp; done) | (simp; omega) | omega), .inl ⟨m, 4, _, HP.out, HL.out.2.2, rfl, rfl, HL.out.1⟩⟩
set_option maxRecDepth 100000 in
set_option maxHeartbeats 1000000 in
theorem short64_get {P : Nat → Prop} {w0 : World} {lo : Nat} {gv : Value} (h : ShortG w0 lo gv 102 8 (.func (.func 71) #[] #[])) (hP : ∀ i, lo ≤ i → i < w0.heap.size → ¬ P i) : Getter (Only P w0) gv pLong eU64 := by
  obtain ⟨Gb, Nb, rfl, a1, a2, a3, a4, c1, c2⟩ := h
  refine ⟨_, _, rfl, fun args w => by kernel_rfl, fun w ho v xs hv hx => ?_⟩
  have g1 := (ho.cell (a := ⟨Gb, 0, none⟩) a2 (hP _ a1 a2)).trans c1
  have g2 := (ho.cell (a := ⟨Nb, 0, none⟩) a4 (hP _ a3 a4)).trans c2
  have hGl := Nat.lt_of_lt_of_le a2 ho.size
  have hNl := Nat.lt_of_lt_of_le a4 ho.size
  obtain ⟨A, c, rfl, hc1, hc2, hB, hnone⟩ := hv.bs
  clear hP ho a1 a2 a3 a4 c1 c2 hv hnone hc2
  show Calls Tryz.prog 102 #[.slice A xs.length c, .pointer (some ⟨Gb, 0, none⟩), .pointer (some ⟨Nb, 0, none⟩)] w _
  by_cases hs : xs.length < 8
  · have HG := Lib.hid (GetLong_short A xs.length c xs w hB hs)
    have HP := Lib.hid (show pLong xs = .error 4 by simp [pLong, hs])
    clear hB hc1 hs
    · skip
      go_enter Tryz.func102, Tryz.ntmps102
      go_wp2_with (go_at_call 71; (refine Calls.mono HG.out ?_); rintro e w1 ⟨rfl, rfl⟩)
      go_quiet (fail)
      go_wp2
      refine bodyPost_ret (v := .tuple #[.int .u64 0, .int .i64 8, .int .i64 4]) (by simp [results, Tryz.results102, go_sem]) rfl ⟨by (with_reducible (repeat' (first | exact Below.refl _ _ | assumption | apply bl_alloc | apply bl_drewN | apply bl_drew | refine bl_set ?_ ?_ _))) <;> (first | done | (simp; done) | (simp; omega) | omega), .inr ⟨4, _, _, HP.out, by decide, rfl⟩⟩
  · have HG := Lib.hid (GetLong_full A xs.length c xs w hB hc1 (by omega))
    have hp : pLong xs = .ok (beN (xs.take 8), 8) := by simp [pLong, hs]
    have HL := Lib.hid (pLong_lt hp)
    have HP := Lib.hid hp
    clear hB hc1 hs hp
    generalize beN (xs.take 8) = m at HG HP HL
    · skip
      go_enter Tryz.func102, Tryz.ntmps102
      go_wp2_with (go_at_call 71; (refine Calls.mono HG.out ?_); rintro e w1 ⟨rfl, rfl⟩)
      go_quiet (fail)
      go_wp2
      refine bodyPost_ret (v := .tuple #[.int .u64 m, .int .i64 8, .int .i64 0]) (by simp [results, Tryz.results102, go_sem]) rfl ⟨by (with_reducible (repeat' (first | exact Below.refl _ _ | assumption | apply bl_alloc | apply bl_drewN | apply bl_drew | refine bl_set ?_ ?_ _))) <;> (first | done | (simp; done) | (simp; omega) | omega), .inl ⟨m, 8, _, HP.out, HL.out.2.2, rfl, rfl, HL.out.1⟩⟩
theorem yesOf_cases (xs : List UInt8) : (∃ y, pYes xs = .ok (y, 4) ∧ yesOf xs = (y, 0) ∧ 4 ≤ xs.length) ∨ ∃ er, pYes xs = .error er ∧ yesOf xs = (false, er) ∧ er ≠ 0 := by
  unfold yesOf
  by_cases hs : xs.length < 4
  · exact .inr ⟨4, by simp [pYes, hs], by simp [pYes, hs], by decide⟩
  · by_cases h1 : beN (xs.take 4) > 1
    · have e : pYes xs = .error 5 := by simp only [pYes, hs, if_false, h1, if_true]
      exact .inr ⟨5, e, by rw [e], by decide⟩
    · have e : pYes xs = .ok (beN (xs.take 4) == 1, 4) := by simp only [pYes, hs, if_false, h1]
      exact .inl ⟨_, e, by rw [e], by omega⟩
set_option maxRecDepth 100000 in
set_option maxHeartbeats 1000000 in
theorem shortY_get {P : Nat → Prop} {w0 : World} {lo : Nat} {gv : Value} (h : ShortG w0 lo gv 122 4 (.func (.func 111) #[] #[])) (hP : ∀ i, lo ≤ i → i < w0.heap.size → ¬ P i) : Getter (Only P w0) gv pYes eBool := by
  obtain ⟨Gb, Nb, rfl, a1, a2, a3, a4, c1, c2⟩ := h
  refine ⟨_, _, rfl, fun args w => by kernel_rfl, fun w ho v xs hv hx => ?_⟩
  have g1 := (ho.cell (a := ⟨Gb, 0, none⟩) a2 (hP _ a1 a2)).trans c1
  have g2 := (ho.cell (a := ⟨Nb, 0, none⟩) a4 (hP _ a3 a4)).trans c2
  have hGl := Nat.lt_of_lt_of_le a2 ho.size
  have hNl := Nat.lt_of_lt_of_le a4 ho.size
  obtain ⟨A, c, rfl, hc1, hc2, hB, hnone⟩ := hv.bs
  clear hP ho a1 a2 a3 a4 c1 c2 hv hnone hc2
  show Calls Tryz.prog 122 #[.slice A xs.length c, .pointer (some ⟨Gb, 0, none⟩), .pointer (some ⟨Nb, 0, none⟩)] w _
  have HG := GetYes_any A xs.length c xs w hB hc1
  have hy := yesOf_cases xs
  generalize yesOf xs = z at HG hy
  obtain ⟨z1, z2⟩ := z
  replace HG := Lib.hid HG
  clear hB hc1
  dsimp only at HG
  have hpost : Hid ((∃ y, pYes xs = .ok (y, 4) ∧ (z1, z2) = (y, (0 : Int)) ∧ 4 ≤ xs.length) ∨ ∃ er, pYes xs = .error er ∧ (z1, z2) = (false, er) ∧ er ≠ 0) := hy
  clear hy
  go_enter Tryz.func122, Tryz.ntmps122
  go_wp2_with (go_at_call 111; (refine Calls.mono HG.out ?_); rintro e w1 ⟨rfl, rfl⟩)
  go_quiet (fail)
  go_wp2
  refine bodyPost_ret (v := .tuple #[.bool z1, .int .i64 4, .int .i64 z2]) (by simp [results, Tryz.results122, go_sem]) rfl ⟨by (with_reducible (repeat' (first | exact Below.refl _ _ | assumption | apply bl_alloc | apply bl_drewN | apply bl_drew | refine bl_set ?_ ?_ _))) <;> (first | done | (simp; done) | (simp; omega) | omega), ?_⟩
  rcases hpost.out with ⟨y, hp, he, hl⟩ | ⟨er, hp, he, hne⟩
  · injection he with e1 e2; subst e1; subst e2
    exact .inl ⟨_, 4, _, hp, hl, rfl, rfl⟩
  · injection he with e1 e2; subst e1; subst e2
    exact .inr ⟨_, _, _, hp, hne, rfl⟩
set_option maxRecDepth 100000 in
set_option maxHeartbeats 1000000 in
theorem short32_put {P : Nat → Prop} {w0 : World} {lo : Nat} {pv : Value} (h : ShortP w0 lo pv 107 (.func (.func 20) #[] #[])) (hP : ∀ i, lo ≤ i → i < w0.heap.size → ¬ P i) : Putter (Only P w0) pv q4 dU32 4 := by
  obtain ⟨Gb, rfl, a1, a2, c1⟩ := h
  refine ⟨fun w y u bs hD hq => ?_, _, _, rfl, fun args w => by kernel_rfl, fun w ho y u hD => ?_⟩
  · injection hq with hq; rw [← hq]; exact Nat.le_of_ble_eq_true rfl
  have g1 := (ho.cell (a := ⟨Gb, 0, none⟩) a2 (hP _ a1 a2)).trans c1
  have hGl := Nat.lt_of_lt_of_le a2 ho.size
  clear hP ho a1 a2 c1
  obtain ⟨rfl, hy⟩ := hD
  have HG := Lib.hid (Put_any y hy w)
  show Calls Tryz.prog 107 #[.int .u32 y, .pointer (some ⟨Gb, 0, none⟩)] w _
  go_enter Tryz.func107, Tryz.ntmps107
  go_wp2_with (go_at_call 20; (refine Calls.mono HG.out ?_); rintro e w1 ⟨v, rfl, o1, b1⟩)
  refine bodyPost_ret (v := .tuple #[v, .int .i64 0]) (by simp [results, Tryz.results107, go_sem]) rfl ⟨b1, .inl ⟨_, _, rfl, rfl, o1⟩⟩
set_option maxRecDepth 100000 in
set_option maxHeartbeats 1000000 in
theorem short64_put {P : Nat → Prop} {w0 : World} {lo : Nat} {pv : Value} (h : ShortP w0 lo pv 103 (.func (.func 19) #[] #[])) (hP : ∀ i, lo ≤ i → i < w0.heap.size → ¬ P i) : Putter (Only P w0) pv q8 dU64 8 := by
  obtain ⟨Gb, rfl, a1, a2, c1⟩ := h
  refine ⟨fun w y u bs hD hq => ?_, _, _, rfl, fun args w => by kernel_rfl, fun w ho y u hD => ?_⟩
  · injection hq with hq; rw [← hq]; exact Nat.le_of_ble_eq_true rfl
  have g1 := (ho.cell (a := ⟨Gb, 0, none⟩) a2 (hP _ a1 a2)).trans c1
  have hGl := Nat.lt_of_lt_of_le a2 ho.size
  clear hP ho a1 a2 c1
  obtain ⟨rfl, hy⟩ := hD
  have HG := Lib.hid (PutLong_any y hy w)
  clear hy
  show Calls Tryz.prog 103 #[.int .u64 y, .pointer (some ⟨Gb, 0, none⟩)] w _
  go_enter Tryz.func103, Tryz.ntmps103
  go_wp2_with (go_at_call 19; (refine Calls.mono HG.out ?_); rintro e w1 ⟨v, rfl, o1, b1⟩)
  refine bodyPost_ret (v := .tuple #[v, .int .i64 0]) (by simp [results, Tryz.results103, go_sem]) rfl ⟨b1, .inl ⟨_, _, rfl, rfl, o1⟩⟩
set_option maxRecDepth 100000 in
set_option maxHeartbeats 1000000 in
theorem shortY_put {P : Nat → Prop} {w0 : World} {lo : Nat} {pv : Value} (h : ShortP w0 lo pv 123 (.func (.func 55) #[] #[])) (hP : ∀ i, lo ≤ i → i < w0.heap.size → ¬ P i) : Putter (Only P w0) pv (fun y => .ok (putYes y)) dBool 4 := by
  obtain ⟨Gb, rfl, a1, a2, c1⟩ := h
  refine ⟨fun w y u bs hD hq => ?_, _, _, rfl, fun args w => by kernel_rfl, fun w ho y u hD => ?_⟩
  · injection hq with hq; rw [← hq]; exact Nat.le_of_ble_eq_true rfl
  have g1 := (ho.cell (a := ⟨Gb, 0, none⟩) a2 (hP _ a1 a2)).trans c1
  have hGl := Nat.lt_of_lt_of_le a2 ho.size
  clear hP ho a1 a2 c1
  cases hD
  have HG := Lib.hid (PutYes_any y w)
  show Calls Tryz.prog 123 #[.bool y, .pointer (some ⟨Gb, 0, none⟩)] w _
  go_enter Tryz.func123, Tryz.ntmps123
  go_wp2_with (go_at_call 55; (refine Calls.mono HG.out ?_); rintro e w1 ⟨v, rfl, o1, b1⟩)
  refine bodyPost_ret (v := .tuple #[v, .int .i64 0]) (by simp [results, Tryz.results123, go_sem]) rfl ⟨b1, .inl ⟨_, _, rfl, rfl, o1⟩⟩
end Go.Proofs.YtgmhapjidbdhnaaGreat
namespace Go.Proofs.YtgmhapjidbdhnaaGreat
open Go.RowKit
/-- The only error of a part is 1. -/
def Err1 (r : Except Int (List UInt8)) : Prop := ∀ e, r = .error e → e = 1
theorem Err1.ok (b : List UInt8) : Err1 (.ok b) := fun e h => by cases h
theorem Err1.catP {l : List (Except Int (List UInt8))} (h : ∀ r ∈ l, Err1 r) : Err1 (catP l) := by
  induction l with
  | nil => exact Err1.ok _
  | cons r l ih =>
    rw [catP_cons]
    have h1 := h r (List.mem_cons_self ..)
    have h2 := ih fun r hr => h r (List.mem_cons_of_mem _ hr)
    rcases r with e | b
    · intro e' he; exact h1 e' he
    · rcases hc : Go.Proofs.YtgmhapjidbdhnaaGreat.catP l with e | c
      · rw [hc] at h2; intro e' he; exact h2 e' he
      · exact Err1.ok _
theorem Err1.opt {has zero : Bool} {rs : List (Except Int (List UInt8))} (h : ∀ r ∈ rs, Err1 r) : Err1 (rOpt has zero rs) := by
  unfold rOpt
  split
  · intro e he; injection he with he; exact he.symm
  · split
    · exact Err1.ok _
    · have := Err1.catP h
      split
      · rename_i e hc; rw [hc] at this; exact this
      · exact Err1.ok _
theorem Err1.time (t : Tm) : Err1 (rTime t) := by
  unfold rTime
  split
  · exact Err1.ok _
  · intro e he; injection he with he; exact he.symm
theorem Err1.how (h : Nat) (t : Tm) : Err1 (rHow h t) := by
  unfold rHow
  split
  · intro e he; injection he with he; exact he.symm
  · split
    · exact Err1.catP (by simp only [List.forall_mem_cons, List.not_mem_nil, false_implies, implies_true, and_true]; exact ⟨Err1.ok _, Err1.time t⟩)
    · exact Err1.ok _
theorem Err1.told (a : At) : Err1 (rTold a) := by
  rw [rTold_eq]
  split
  · exact Err1.ok _
  · intro e he; injection he with he; exact he.symm
theorem Err1.set (s : St) : Err1 (rSet s) := by
  unfold rSet
  split
  · refine Err1.catP ?_
    simp only [setL, List.forall_mem_cons, List.not_mem_nil, false_implies, implies_true, and_true]
    exact ⟨Err1.opt (by simp [Err1]), Err1.opt (by simp [Err1]), Err1.opt (by simp [Err1]), Err1.opt (by simp [Err1]), Err1.how _ _, Err1.how _ _⟩
  · intro e he; injection he with he; exact he.symm
theorem Err1.weak (k : Wk) : Err1 (Go.Proofs.YtgmhapjidbdhnaaGreat.catP (weakL k)) := by
  refine Err1.catP ?_
  simp only [weakL, List.forall_mem_cons, List.not_mem_nil, false_implies, implies_true, and_true]
  refine ⟨Err1.opt ?_, Err1.opt ?_⟩
  · simp only [List.forall_mem_cons, List.not_mem_nil, false_implies, implies_true, and_true]
    exact ⟨Err1.ok _, Err1.time _, Err1.time _⟩
  · simp only [List.forall_mem_cons, List.not_mem_nil, false_implies, implies_true, and_true]
    exact Err1.told _
/-! ### lengths -/
/-- If these bytes are there, they are so many. -/
def Len (r : Except Int (List UInt8)) (n : Nat) : Prop := ∀ b, r = .ok b → b.length = n
theorem Len.cons {r : Except Int (List UInt8)} {rs : List (Except Int (List UInt8))} {n m : Nat} (h : Len r n) (h2 : Len (catP rs) m) : Len (catP (r :: rs)) (n + m) := fun b hb => by
  rw [catP_cons] at hb
  obtain ⟨x, y, e1, e2, rfl⟩ := cat2_ok hb
  rw [List.length_append, h _ e1, h2 _ e2]
theorem Len.nil : Len (catP []) 0 := fun b hb => by injection hb with hb; rw [← hb]; rfl
theorem Len.ok (b : List UInt8) : Len (.ok b) b.length := fun c h => by injection h with h; rw [h]
theorem Len.opt {has zero : Bool} {rs : List (Except Int (List UInt8))} {n : Nat} (h : Len (catP rs) n) : Len (rOpt has zero rs) (4 + if has then n else 0) := fun b hb => by
  unfold rOpt at hb
  split at hb
  · cases hb
  · split at hb
    · rename_i hh; injection hb with hb; rw [← hb, hh]; rfl
    · rename_i hh
      have : has = true := by simpa using hh
      split at hb
      · cases hb
      · rename_i c hc
        injection hb with hb
        rw [← hb, List.length_append, h _ hc, this]; rfl
theorem Len.time (t : Tm) : Len (rTime t) 8 := fun b hb => by
  unfold rTime at hb
  split at hb
  · injection hb with hb; rw [← hb]; rfl
  · cases hb
theorem Len.how (h : Nat) (t : Tm) : Len (rHow h t) (4 + if h = 2 then 8 else 0) := fun b hb => by
  unfold rHow at hb
  split at hb
  · cases hb
  · split at hb
    · rename_i hh
      rw [if_pos hh]
      exact (Len.ok (put4 h)).cons ((Len.time t).cons Len.nil) b hb
    · rename_i hh
      rw [if_neg hh]
      injection hb with hb; rw [← hb]; rfl
theorem Len.told (a : At) : Len (rTold a) 84 := fun b hb => by
  rw [rTold_eq] at hb
  split at hb
  · injection hb with hb; rw [← hb, putAt_length]
  · cases hb
def setN (s : St) : Nat := 24 + (if s.hasMode then 4 else 0) + (if s.hasUser then 4 else 0) + (if s.hasGroup then 4 else 0) + (if s.hasSize then 8 else 0) + (if s.readHow = 2 then 8 else 0) + (if s.writeHow = 2 then 8 else 0)
theorem Len.set (s : St) : Len (rSet s) (setN s) := fun b hb => by
  unfold rSet at hb
  split at hb
  · have := (Len.opt (has := s.hasMode) (zero := (s.mode : Int) == 0) ((Len.ok (put4 s.mode)).cons Len.nil)).cons ((Len.opt (has := s.hasUser) (zero := (s.user : Int) == 0) ((Len.ok (put4 s.user)).cons Len.nil)).cons ((Len.opt (has := s.hasGroup) (zero := (s.group : Int) == 0) ((Len.ok (put4 s.group)).cons Len.nil)).cons ((Len.opt (has := s.hasSize) (zero := (s.size : Int) == 0) ((Len.ok (put8 s.size)).cons Len.nil)).cons ((Len.how s.readHow s.read).cons ((Len.how s.writeHow s.write).cons Len.nil))))) b hb
    rw [this, setN]
    simp only [put4_length, put8_length, Nat.add_zero, Nat.reduceAdd]
    omega
  · cases hb
def weakN (k : Wk) : Nat := 8 + (if k.hasBefore then 24 else 0) + (if k.hasAfter then 84 else 0)
theorem Len.weak (k : Wk) : Len (catP (weakL k)) (weakN k) := fun b hb => by
  have := (Len.opt (has := k.hasBefore) (zero := zB k) ((Len.ok (put8 k.size)).cons ((Len.time k.write).cons ((Len.time k.turn).cons Len.nil)))).cons ((Len.opt (has := k.hasAfter) (zero := k.after == At.zero) ((Len.told k.after).cons Len.nil)).cons Len.nil) b hb
  rw [this, weakN]
  simp only [put8_length, Nat.add_zero, Nat.reduceAdd]
  omega
theorem setN_le (s : St) : 24 ≤ setN s ∧ setN s ≤ 60 ∧ setN s % 4 = 0 := by
  unfold setN
  split <;> split <;> split <;> split <;> split <;> split <;> decide
theorem weakN_le (k : Wk) : 8 ≤ weakN k ∧ weakN k ≤ 116 ∧ weakN k % 4 = 0 := by
  unfold weakN
  split <;> split <;> decide
end Go.Proofs.YtgmhapjidbdhnaaGreat
namespace Go.Proofs.YtgmhapjidbdhnaaGreat
open Go.RowKit
theorem Ps.bind_pure' {α : Type} (p : Ps α) : Ps.bind p Ps.pure = p := by
  funext b
  unfold Ps.bind Ps.pure
  rcases p b with e | ⟨x, k⟩ <;> simp
theorem seqW_cons (p : Pt) (l : List Pt) (a : Ar) : seqW (p :: l) a = cat2 (p.wr a) (seqW l a) := catP_cons _ _
theorem law_alone (p : Nat) : Lawful (seqR [ptH] (Ar.zero p)) (seqW [ptH]) (fun v => v.h.length ≤ 64 ∧ v = {Ar.zero p with h := v.h}) := by
  simp only [seqR, ptH, fieldP, Ps.bind_assoc, Ps.pure_bind, Ps.bind_pure']
  refine Lawful.bind (q2 := seqW []) Ar.h (lawful_opq 64 (by decide)) (fun x0 hx0 => ?_) (fun v hv => hv.1) (fun v => seqW_cons _ _ _)
  refine Lawful.pure (fun v => ⟨?_, ?_⟩) rfl
  · rintro ⟨⟨_, e⟩, rfl⟩; exact e
  · rintro rfl; exact ⟨⟨hx0, rfl⟩, rfl⟩
theorem law_named (p : Nat) : Lawful (seqR [ptH, ptName] (Ar.zero p)) (seqW [ptH, ptName]) (fun v => v.h.length ≤ 64 ∧ v.name.length ≤ 1024 ∧ v = {Ar.zero p with h := v.h, name := v.name}) := by
  simp only [seqR, ptH, ptName, fieldP, Ps.bind_assoc, Ps.pure_bind, Ps.bind_pure']
  refine Lawful.bind (q2 := seqW [ptName]) Ar.h (lawful_opq 64 (by decide)) (fun x0 hx0 => ?_) (fun v hv => hv.1) (fun v => seqW_cons _ _ _)
  refine Lawful.bind (q2 := seqW []) Ar.name (lawful_opq 1024 (by decide)) (fun x1 hx1 => ?_) (fun v hv => hv.1.2.1) (fun v => seqW_cons _ _ _)
  refine Lawful.pure (fun v => ⟨?_, ?_⟩) rfl
  · rintro ⟨⟨⟨_, _, e⟩, rfl⟩, rfl⟩; exact e
  · rintro rfl; exact ⟨⟨⟨hx0, hx1, rfl⟩, rfl⟩, rfl⟩
theorem law_access (p : Nat) : Lawful (seqR [ptH, ptBits] (Ar.zero p)) (seqW [ptH, ptBits]) (fun v => v.h.length ≤ 64 ∧ v.bits < 4294967296 ∧ v = {Ar.zero p with h := v.h, bits := v.bits}) := by
  simp only [seqR, ptBits, ptH, fieldP, Ps.bind_assoc, Ps.pure_bind, Ps.bind_pure']
  refine Lawful.bind (q2 := seqW [ptBits]) Ar.h (lawful_opq 64 (by decide)) (fun x0 hx0 => ?_) (fun v hv => hv.1) (fun v => seqW_cons _ _ _)
  refine Lawful.bind (q2 := seqW []) Ar.bits lawful_num (fun x1 hx1 => ?_) (fun v hv => hv.1.2.1) (fun v => seqW_cons _ _ _)
  refine Lawful.pure (fun v => ⟨?_, ?_⟩) rfl
  · rintro ⟨⟨⟨_, _, e⟩, rfl⟩, rfl⟩; exact e
  · rintro rfl; exact ⟨⟨⟨hx0, hx1, rfl⟩, rfl⟩, rfl⟩
theorem law_read (p : Nat) : Lawful (seqR [ptH, ptOffset, ptCount] (Ar.zero p)) (seqW [ptH, ptOffset, ptCount]) (fun v => v.h.length ≤ 64 ∧ v.offset < 18446744073709551616 ∧ v.count < 4294967296 ∧ v = {Ar.zero p with h := v.h, offset := v.offset, count := v.count}) := by
  simp only [seqR, ptCount, ptH, ptOffset, fieldP, Ps.bind_assoc, Ps.pure_bind, Ps.bind_pure']
  refine Lawful.bind (q2 := seqW [ptOffset, ptCount]) Ar.h (lawful_opq 64 (by decide)) (fun x0 hx0 => ?_) (fun v hv => hv.1) (fun v => seqW_cons _ _ _)
  refine Lawful.bind (q2 := seqW [ptCount]) Ar.offset lawful_long (fun x1 hx1 => ?_) (fun v hv => hv.1.2.1) (fun v => seqW_cons _ _ _)
  refine Lawful.bind (q2 := seqW []) Ar.count lawful_num (fun x2 hx2 => ?_) (fun v hv => hv.1.1.2.2.1) (fun v => seqW_cons _ _ _)
  refine Lawful.pure (fun v => ⟨?_, ?_⟩) rfl
  · rintro ⟨⟨⟨⟨_, _, _, e⟩, rfl⟩, rfl⟩, rfl⟩; exact e
  · rintro rfl; exact ⟨⟨⟨⟨hx0, hx1, hx2, rfl⟩, rfl⟩, rfl⟩, rfl⟩
theorem law_write (p : Nat) : Lawful (seqR [ptH, ptOffset, ptCount, ptStable, ptData] (Ar.zero p)) (seqW [ptH, ptOffset, ptCount, ptStable, ptData]) (fun v => v.h.length ≤ 64 ∧ v.offset < 18446744073709551616 ∧ v.count < 4294967296 ∧ v.stable ≤ 2 ∧ v.data.length ≤ 32768 ∧ v = {Ar.zero p with h := v.h, offset := v.offset, count := v.count, stable := v.stable, data := v.data}) := by
  simp only [seqR, ptCount, ptData, ptH, ptOffset, ptStable, fieldP, Ps.bind_assoc, Ps.pure_bind, Ps.bind_pure']
  refine Lawful.bind (q2 := seqW [ptOffset, ptCount, ptStable, ptData]) Ar.h (lawful_opq 64 (by decide)) (fun x0 hx0 => ?_) (fun v hv => hv.1) (fun v => seqW_cons _ _ _)
  refine Lawful.bind (q2 := seqW [ptCount, ptStable, ptData]) Ar.offset lawful_long (fun x1 hx1 => ?_) (fun v hv => hv.1.2.1) (fun v => seqW_cons _ _ _)
  refine Lawful.bind (q2 := seqW [ptStable, ptData]) Ar.count lawful_num (fun x2 hx2 => ?_) (fun v hv => hv.1.1.2.2.1) (fun v => seqW_cons _ _ _)
  refine Lawful.bind (q2 := seqW [ptData]) Ar.stable (lawful_small 2 (by decide)) (fun x3 hx3 => ?_) (fun v hv => hv.1.1.1.2.2.2.1) (fun v => seqW_cons _ _ _)
  refine Lawful.bind (q2 := seqW []) Ar.data (lawful_opq 32768 (by decide)) (fun x4 hx4 => ?_) (fun v hv => hv.1.1.1.1.2.2.2.2.1) (fun v => seqW_cons _ _ _)
  refine Lawful.pure (fun v => ⟨?_, ?_⟩) rfl
  · rintro ⟨⟨⟨⟨⟨⟨_, _, _, _, _, e⟩, rfl⟩, rfl⟩, rfl⟩, rfl⟩, rfl⟩; exact e
  · rintro rfl; exact ⟨⟨⟨⟨⟨⟨hx0, hx1, hx2, hx3, hx4, rfl⟩, rfl⟩, rfl⟩, rfl⟩, rfl⟩, rfl⟩
theorem law_mkdir (p : Nat) : Lawful (seqR [ptH, ptName, ptSet] (Ar.zero p)) (seqW [ptH, ptName, ptSet]) (fun v => v.h.length ≤ 64 ∧ v.name.length ≤ 1024 ∧ v.set.wf ∧ v = {Ar.zero p with h := v.h, name := v.name, set := v.set}) := by
  simp only [seqR, ptH, ptName, ptSet, fieldP, Ps.bind_assoc, Ps.pure_bind, Ps.bind_pure']
  refine Lawful.bind (q2 := seqW [ptName, ptSet]) Ar.h (lawful_opq 64 (by decide)) (fun x0 hx0 => ?_) (fun v hv => hv.1) (fun v => seqW_cons _ _ _)
  refine Lawful.bind (q2 := seqW [ptSet]) Ar.name (lawful_opq 1024 (by decide)) (fun x1 hx1 => ?_) (fun v hv => hv.1.2.1) (fun v => seqW_cons _ _ _)
  refine Lawful.bind (q2 := seqW []) Ar.set lawful_set (fun x2 hx2 => ?_) (fun v hv => hv.1.1.2.2.1) (fun v => seqW_cons _ _ _)
  refine Lawful.pure (fun v => ⟨?_, ?_⟩) rfl
  · rintro ⟨⟨⟨⟨_, _, _, e⟩, rfl⟩, rfl⟩, rfl⟩; exact e
  · rintro rfl; exact ⟨⟨⟨⟨hx0, hx1, hx2, rfl⟩, rfl⟩, rfl⟩, rfl⟩
theorem law_symlink (p : Nat) : Lawful (seqR [ptH, ptName, ptSet, ptTarget] (Ar.zero p)) (seqW [ptH, ptName, ptSet, ptTarget]) (fun v => v.h.length ≤ 64 ∧ v.name.length ≤ 1024 ∧ v.set.wf ∧ v.target.length ≤ 1024 ∧ v = {Ar.zero p with h := v.h, name := v.name, set := v.set, target := v.target}) := by
  simp only [seqR, ptH, ptName, ptSet, ptTarget, fieldP, Ps.bind_assoc, Ps.pure_bind, Ps.bind_pure']
  refine Lawful.bind (q2 := seqW [ptName, ptSet, ptTarget]) Ar.h (lawful_opq 64 (by decide)) (fun x0 hx0 => ?_) (fun v hv => hv.1) (fun v => seqW_cons _ _ _)
  refine Lawful.bind (q2 := seqW [ptSet, ptTarget]) Ar.name (lawful_opq 1024 (by decide)) (fun x1 hx1 => ?_) (fun v hv => hv.1.2.1) (fun v => seqW_cons _ _ _)
  refine Lawful.bind (q2 := seqW [ptTarget]) Ar.set lawful_set (fun x2 hx2 => ?_) (fun v hv => hv.1.1.2.2.1) (fun v => seqW_cons _ _ _)
  refine Lawful.bind (q2 := seqW []) Ar.target (lawful_opq 1024 (by decide)) (fun x3 hx3 => ?_) (fun v hv => hv.1.1.1.2.2.2.1) (fun v => seqW_cons _ _ _)
  refine Lawful.pure (fun v => ⟨?_, ?_⟩) rfl
  · rintro ⟨⟨⟨⟨⟨_, _, _, _, e⟩, rfl⟩, rfl⟩, rfl⟩, rfl⟩; exact e
  · rintro rfl; exact ⟨⟨⟨⟨⟨hx0, hx1, hx2, hx3, rfl⟩, rfl⟩, rfl⟩, rfl⟩, rfl⟩
theorem law_rename (p : Nat) : Lawful (seqR [ptH, ptName, ptH2, ptName2] (Ar.zero p)) (seqW [ptH, ptName, ptH2, ptName2]) (fun v => v.h.length ≤ 64 ∧ v.name.length ≤ 1024 ∧ v.h2.length ≤ 64 ∧ v.name2.length ≤ 1024 ∧ v = {Ar.zero p with h := v.h, name := v.name, h2 := v.h2, name2 := v.name2}) := by
  simp only [seqR, ptH, ptH2, ptName, ptName2, fieldP, Ps.bind_assoc, Ps.pure_bind, Ps.bind_pure']
  refine Lawful.bind (q2 := seqW [ptName, ptH2, ptName2]) Ar.h (lawful_opq 64 (by decide)) (fun x0 hx0 => ?_) (fun v hv => hv.1) (fun v => seqW_cons _ _ _)
  refine Lawful.bind (q2 := seqW [ptH2, ptName2]) Ar.name (lawful_opq 1024 (by decide)) (fun x1 hx1 => ?_) (fun v hv => hv.1.2.1) (fun v => seqW_cons _ _ _)
  refine Lawful.bind (q2 := seqW [ptName2]) Ar.h2 (lawful_opq 64 (by decide)) (fun x2 hx2 => ?_) (fun v hv => hv.1.1.2.2.1) (fun v => seqW_cons _ _ _)
  refine Lawful.bind (q2 := seqW []) Ar.name2 (lawful_opq 1024 (by decide)) (fun x3 hx3 => ?_) (fun v hv => hv.1.1.1.2.2.2.1) (fun v => seqW_cons _ _ _)
  refine Lawful.pure (fun v => ⟨?_, ?_⟩) rfl
  · rintro ⟨⟨⟨⟨⟨_, _, _, _, e⟩, rfl⟩, rfl⟩, rfl⟩, rfl⟩; exact e
  · rintro rfl; exact ⟨⟨⟨⟨⟨hx0, hx1, hx2, hx3, rfl⟩, rfl⟩, rfl⟩, rfl⟩, rfl⟩
theorem law_link (p : Nat) : Lawful (seqR [ptH, ptH2, ptName2] (Ar.zero p)) (seqW [ptH, ptH2, ptName2]) (fun v => v.h.length ≤ 64 ∧ v.h2.length ≤ 64 ∧ v.name2.length ≤ 1024 ∧ v = {Ar.zero p with h := v.h, h2 := v.h2, name2 := v.name2}) := by
  simp only [seqR, ptH, ptH2, ptName2, fieldP, Ps.bind_assoc, Ps.pure_bind, Ps.bind_pure']
  refine Lawful.bind (q2 := seqW [ptH2, ptName2]) Ar.h (lawful_opq 64 (by decide)) (fun x0 hx0 => ?_) (fun v hv => hv.1) (fun v => seqW_cons _ _ _)
  refine Lawful.bind (q2 := seqW [ptName2]) Ar.h2 (lawful_opq 64 (by decide)) (fun x1 hx1 => ?_) (fun v hv => hv.1.2.1) (fun v => seqW_cons _ _ _)
  refine Lawful.bind (q2 := seqW []) Ar.name2 (lawful_opq 1024 (by decide)) (fun x2 hx2 => ?_) (fun v hv => hv.1.1.2.2.1) (fun v => seqW_cons _ _ _)
  refine Lawful.pure (fun v => ⟨?_, ?_⟩) rfl
  · rintro ⟨⟨⟨⟨_, _, _, e⟩, rfl⟩, rfl⟩, rfl⟩; exact e
  · rintro rfl; exact ⟨⟨⟨⟨hx0, hx1, hx2, rfl⟩, rfl⟩, rfl⟩, rfl⟩
theorem law_readdir (p : Nat) : Lawful (seqR [ptH, ptCookie, ptVerf, ptCount] (Ar.zero p)) (seqW [ptH, ptCookie, ptVerf, ptCount]) (fun v => v.h.length ≤ 64 ∧ v.cookie < 18446744073709551616 ∧ v.verf.length = 8 ∧ v.count < 4294967296 ∧ v = {Ar.zero p with h := v.h, cookie := v.cookie, verf := v.verf, count := v.count}) := by
  simp only [seqR, ptCookie, ptCount, ptH, ptVerf, fieldP, Ps.bind_assoc, Ps.pure_bind, Ps.bind_pure']
  refine Lawful.bind (q2 := seqW [ptCookie, ptVerf, ptCount]) Ar.h (lawful_opq 64 (by decide)) (fun x0 hx0 => ?_) (fun v hv => hv.1) (fun v => seqW_cons _ _ _)
  refine Lawful.bind (q2 := seqW [ptVerf, ptCount]) Ar.cookie lawful_long (fun x1 hx1 => ?_) (fun v hv => hv.1.2.1) (fun v => seqW_cons _ _ _)
  refine Lawful.bind (q2 := seqW [ptCount]) Ar.verf lawful_verf (fun x2 hx2 => ?_) (fun v hv => hv.1.1.2.2.1) (fun v => seqW_cons _ _ _)
  refine Lawful.bind (q2 := seqW []) Ar.count lawful_num (fun x3 hx3 => ?_) (fun v hv => hv.1.1.1.2.2.2.1) (fun v => seqW_cons _ _ _)
  refine Lawful.pure (fun v => ⟨?_, ?_⟩) rfl
  · rintro ⟨⟨⟨⟨⟨_, _, _, _, e⟩, rfl⟩, rfl⟩, rfl⟩, rfl⟩; exact e
  · rintro rfl; exact ⟨⟨⟨⟨⟨hx0, hx1, hx2, hx3, rfl⟩, rfl⟩, rfl⟩, rfl⟩, rfl⟩
theorem law_readdirplus (p : Nat) : Lawful (seqR [ptH, ptCookie, ptVerf, ptCount, ptMax] (Ar.zero p)) (seqW [ptH, ptCookie, ptVerf, ptCount, ptMax]) (fun v => v.h.length ≤ 64 ∧ v.cookie < 18446744073709551616 ∧ v.verf.length = 8 ∧ v.count < 4294967296 ∧ v.max < 4294967296 ∧ v = {Ar.zero p with h := v.h, cookie := v.cookie, verf := v.verf, count := v.count, max := v.max}) := by
  simp only [seqR, ptCookie, ptCount, ptH, ptMax, ptVerf, fieldP, Ps.bind_assoc, Ps.pure_bind, Ps.bind_pure']
  refine Lawful.bind (q2 := seqW [ptCookie, ptVerf, ptCount, ptMax]) Ar.h (lawful_opq 64 (by decide)) (fun x0 hx0 => ?_) (fun v hv => hv.1) (fun v => seqW_cons _ _ _)
  refine Lawful.bind (q2 := seqW [ptVerf, ptCount, ptMax]) Ar.cookie lawful_long (fun x1 hx1 => ?_) (fun v hv => hv.1.2.1) (fun v => seqW_cons _ _ _)
  refine Lawful.bind (q2 := seqW [ptCount, ptMax]) Ar.verf lawful_verf (fun x2 hx2 => ?_) (fun v hv => hv.1.1.2.2.1) (fun v => seqW_cons _ _ _)
  refine Lawful.bind (q2 := seqW [ptMax]) Ar.count lawful_num (fun x3 hx3 => ?_) (fun v hv => hv.1.1.1.2.2.2.1) (fun v => seqW_cons _ _ _)
  refine Lawful.bind (q2 := seqW []) Ar.max lawful_num (fun x4 hx4 => ?_) (fun v hv => hv.1.1.1.1.2.2.2.2.1) (fun v => seqW_cons _ _ _)
  refine Lawful.pure (fun v => ⟨?_, ?_⟩) rfl
  · rintro ⟨⟨⟨⟨⟨⟨_, _, _, _, _, e⟩, rfl⟩, rfl⟩, rfl⟩, rfl⟩, rfl⟩; exact e
  · rintro rfl; exact ⟨⟨⟨⟨⟨⟨hx0, hx1, hx2, hx3, hx4, rfl⟩, rfl⟩, rfl⟩, rfl⟩, rfl⟩, rfl⟩
theorem law_null (p : Nat) : Lawful (seqR [] (Ar.zero p)) (seqW []) (fun v => v = Ar.zero p) := by
  simp only [seqR]
  refine Lawful.pure (fun v => ⟨?_, ?_⟩) rfl
  · rintro e; exact e
  · rintro rfl; exact rfl
end Go.Proofs.YtgmhapjidbdhnaaGreat
namespace Go.Proofs.YtgmhapjidbdhnaaGreat
open Go.RowKit
theorem seqW_if_true {c : Ar → Bool} {l r : List Pt} {v : Ar} (h : c v = true) : seqW (ifP c l :: r) v = cat2 (seqW l v) (seqW r v) := by
  rw [seqW_cons]
  show cat2 (if c v = true then seqW l v else .ok []) _ = _
  rw [if_pos h]
theorem cat2_nil (r : Except Int (List UInt8)) : cat2 (.ok []) r = r := by rcases r with e | b <;> rfl
theorem cat2_nil' (r : Except Int (List UInt8)) : cat2 r (.ok []) = r := by
  rcases r with e | b
  · rfl
  · simp [cat2]
theorem seqW_if_false {c : Ar → Bool} {l r : List Pt} {v : Ar} (h : c v = false) : seqW (ifP c l :: r) v = seqW r v := by
  rw [seqW_cons]
  show cat2 (if c v = true then seqW l v else .ok []) _ = _
  rw [if_neg (by rw [h]; decide), cat2_nil]
theorem tm0_wf : (⟨0, 0⟩ : Tm).wf := ⟨by decide, by decide⟩
theorem st0_wf : St.zero.wf := ⟨by decide, by decide, by decide, by decide, by decide, ⟨by decide, by decide⟩, by decide, ⟨by decide, by decide⟩⟩
theorem law_setattr (p : Nat) : Lawful (seqR (partsOf 2) (Ar.zero p)) (seqW (partsOf 2)) (fun v => v.h.length ≤ 64 ∧ v.set.wf ∧ v.guard.wf ∧ (v.hasGuard = false → v.guard = ⟨0, 0⟩) ∧ v = {Ar.zero p with h := v.h, set := v.set, hasGuard := v.hasGuard, guard := v.guard}) := by
  simp only [partsOf, seqR, ptH, ptSet, ptYes, ptGuard, ifP, fieldP, Ps.bind_assoc, Ps.pure_bind, Ps.bind_pure']
  refine Lawful.bind (q2 := seqW [ptSet, ptYes, ifP Ar.hasGuard [ptGuard]]) Ar.h (lawful_opq 64 (by decide)) (fun x0 hx0 => ?_) (fun v hv => hv.1) (fun v => seqW_cons _ _ _)
  refine Lawful.bind (q2 := seqW [ptYes, ifP Ar.hasGuard [ptGuard]]) Ar.set lawful_set (fun x1 hx1 => ?_) (fun v hv => hv.1.2.1) (fun v => seqW_cons _ _ _)
  refine Lawful.bind (q2 := seqW [ifP Ar.hasGuard [ptGuard]]) Ar.hasGuard lawful_yes (fun y _ => ?_) (fun v hv => trivial) (fun v => seqW_cons _ _ _)
  cases y
  · simp only [Bool.false_eq_true, if_false]
    refine Lawful.pure (fun v => ⟨?_, ?_⟩) rfl
    · rintro ⟨⟨⟨⟨_, _, _, hz, e⟩, rfl⟩, rfl⟩, hy⟩
      rw [hz hy, hy] at e; exact e
    · rintro rfl; exact ⟨⟨⟨⟨hx0, hx1, tm0_wf, fun _ => rfl, rfl⟩, rfl⟩, rfl⟩, rfl⟩
  · simp only [if_true]
    refine Lawful.weaken (q := seqW [ptGuard]) (wf := fun v => (((v.h.length ≤ 64 ∧ v.set.wf ∧ v.guard.wf ∧ (v.hasGuard = false → v.guard = ⟨0, 0⟩) ∧ v = {Ar.zero p with h := v.h, set := v.set, hasGuard := v.hasGuard, guard := v.guard}) ∧ v.h = x0) ∧ v.set = x1) ∧ v.hasGuard = true) ?_ (fun v => Iff.rfl) (fun v hv => by rw [seqW_if_true hv.2]; exact (cat2_nil' _).symm)
    refine Lawful.bind (q2 := seqW []) Ar.guard lawful_time (fun x2 hx2 => ?_) (fun v hv => hv.1.1.1.2.2.1) (fun v => seqW_cons _ _ _)
    refine Lawful.pure (fun v => ⟨?_, ?_⟩) rfl
    · rintro ⟨⟨⟨⟨⟨_, _, _, hz, e⟩, rfl⟩, rfl⟩, hy⟩, rfl⟩
      rw [hy] at e; exact e
    · rintro rfl; exact ⟨⟨⟨⟨⟨hx0, hx1, hx2, fun h => Bool.noConfusion h, rfl⟩, rfl⟩, rfl⟩, rfl⟩, rfl⟩
theorem law_create (p : Nat) : Lawful (seqR (partsOf 8) (Ar.zero p)) (seqW (partsOf 8)) (fun v => v.h.length ≤ 64 ∧ v.name.length ≤ 1024 ∧ v.how ≤ 2 ∧ v.verf.length = 8 ∧ v.set.wf ∧ (v.how = 2 → v.set = St.zero) ∧ (v.how ≠ 2 → v.verf = List.replicate 8 0) ∧ v = {Ar.zero p with h := v.h, name := v.name, how := v.how, verf := v.verf, set := v.set}) := by
  simp only [partsOf, seqR, ptH, ptName, ptHow, ptVerf, ptSet, ifP, fieldP, Ps.bind_assoc, Ps.pure_bind, Ps.bind_pure']
  refine Lawful.bind (q2 := seqW [ptName, ptHow, ifP (fun a => a.how == 2) [ptVerf], ifP (fun a => a.how != 2) [ptSet]]) Ar.h (lawful_opq 64 (by decide)) (fun x0 hx0 => ?_) (fun v hv => hv.1) (fun v => seqW_cons _ _ _)
  refine Lawful.bind (q2 := seqW [ptHow, ifP (fun a => a.how == 2) [ptVerf], ifP (fun a => a.how != 2) [ptSet]]) Ar.name (lawful_opq 1024 (by decide)) (fun x1 hx1 => ?_) (fun v hv => hv.1.2.1) (fun v => seqW_cons _ _ _)
  refine Lawful.bind (q2 := seqW [ifP (fun a => a.how == 2) [ptVerf], ifP (fun a => a.how != 2) [ptSet]]) Ar.how (lawful_small 2 (by decide)) (fun x2 hx2 => ?_) (fun v hv => hv.1.1.2.2.1) (fun v => seqW_cons _ _ _)
  by_cases h2 : x2 = 2
  · subst h2
    simp only [beq_self_eq_true, bne_self_eq_false, if_true, Bool.false_eq_true, if_false, Ps.bind_assoc, Ps.pure_bind, Ps.bind_pure']
    refine Lawful.weaken (q := seqW [ptVerf]) (wf := fun v => (((v.h.length ≤ 64 ∧ v.name.length ≤ 1024 ∧ v.how ≤ 2 ∧ v.verf.length = 8 ∧ v.set.wf ∧ (v.how = 2 → v.set = St.zero) ∧ (v.how ≠ 2 → v.verf = List.replicate 8 0) ∧ v = {Ar.zero p with h := v.h, name := v.name, how := v.how, verf := v.verf, set := v.set}) ∧ v.h = x0) ∧ v.name = x1) ∧ v.how = 2) ?_ (fun v => Iff.rfl) (fun v hv => by
      rw [seqW_if_true (by simp [hv.2]), seqW_if_false (by simp [hv.2])]; exact (cat2_nil' _).symm)
    refine Lawful.bind (q2 := seqW []) Ar.verf lawful_verf (fun x3 hx3 => ?_) (fun v hv => hv.1.1.1.2.2.2.1) (fun v => seqW_cons _ _ _)
    refine Lawful.pure (fun v => ⟨?_, ?_⟩) rfl
    · rintro ⟨⟨⟨⟨⟨_, _, _, _, _, hz, _, e⟩, rfl⟩, rfl⟩, hy⟩, rfl⟩
      rw [hz hy, hy] at e; exact e
    · rintro rfl; exact ⟨⟨⟨⟨⟨hx0, hx1, hx2, hx3, st0_wf, fun _ => rfl, fun h => absurd rfl h, rfl⟩, rfl⟩, rfl⟩, rfl⟩, rfl⟩
  · have hb : (x2 == 2) = false := by simpa using h2
    have hc : (x2 != 2) = true := by simpa using h2
    simp only [hb, hc, if_true, Bool.false_eq_true, if_false, Ps.bind_assoc, Ps.pure_bind, Ps.bind_pure']
    refine Lawful.weaken (q := seqW [ptSet]) (wf := fun v => (((v.h.length ≤ 64 ∧ v.name.length ≤ 1024 ∧ v.how ≤ 2 ∧ v.verf.length = 8 ∧ v.set.wf ∧ (v.how = 2 → v.set = St.zero) ∧ (v.how ≠ 2 → v.verf = List.replicate 8 0) ∧ v = {Ar.zero p with h := v.h, name := v.name, how := v.how, verf := v.verf, set := v.set}) ∧ v.h = x0) ∧ v.name = x1) ∧ v.how = x2) ?_ (fun v => Iff.rfl) (fun v hv => by
      rw [seqW_if_false (by rw [hv.2]; exact hb), seqW_if_true (by rw [hv.2]; exact hc)]; exact (cat2_nil' _).symm)
    refine Lawful.bind (q2 := seqW []) Ar.set lawful_set (fun x3 hx3 => ?_) (fun v hv => hv.1.1.1.2.2.2.2.1) (fun v => seqW_cons _ _ _)
    refine Lawful.pure (fun v => ⟨?_, ?_⟩) rfl
    · rintro ⟨⟨⟨⟨⟨_, _, _, _, _, _, hz, e⟩, rfl⟩, rfl⟩, rfl⟩, rfl⟩
      rw [hz h2] at e; exact e
    · rintro rfl; exact ⟨⟨⟨⟨⟨hx0, hx1, hx2, rfl, hx3, fun h => absurd h h2, fun _ => rfl, rfl⟩, rfl⟩, rfl⟩, rfl⟩, rfl⟩
def kindA (n : Nat) : Bool := n == 3 || (n == 4 || (n == 6 || n == 7))
def kindB (n : Nat) : Bool := n == 3 || n == 4
theorem kindB_A {n : Nat} (h : kindB n = true) : kindA n = true := by
  unfold kindB at h; unfold kindA
  rcases Bool.or_eq_true_iff.1 h with h | h <;> rw [h] <;> simp
theorem law_mknod (p : Nat) : Lawful (seqR (partsOf 11) (Ar.zero p)) (seqW (partsOf 11)) (fun v => v.h.length ≤ 64 ∧ v.name.length ≤ 1024 ∧ v.kind < 4294967296 ∧ v.set.wf ∧ v.offset < 18446744073709551616 ∧ (kindA v.kind = false → v.set = St.zero) ∧ (kindB v.kind = false → v.offset = 0) ∧ v = {Ar.zero p with h := v.h, name := v.name, kind := v.kind, set := v.set, offset := v.offset}) := by
  show Lawful (seqR [ptH, ptName, ptKind, ifP (fun a => kindA a.kind) [ptSet], ifP (fun a => kindB a.kind) [ptOffset]] (Ar.zero p)) (seqW [ptH, ptName, ptKind, ifP (fun a => kindA a.kind) [ptSet], ifP (fun a => kindB a.kind) [ptOffset]]) _
  simp only [seqR, ptH, ptName, ptKind, ptOffset, ptSet, ifP, fieldP, Ps.bind_assoc, Ps.pure_bind, Ps.bind_pure']
  refine Lawful.bind (q2 := seqW [ptName, ptKind, ifP (fun a => kindA a.kind) [ptSet], ifP (fun a => kindB a.kind) [ptOffset]]) Ar.h (lawful_opq 64 (by decide)) (fun x0 hx0 => ?_) (fun v hv => hv.1) (fun v => seqW_cons _ _ _)
  refine Lawful.bind (q2 := seqW [ptKind, ifP (fun a => kindA a.kind) [ptSet], ifP (fun a => kindB a.kind) [ptOffset]]) Ar.name (lawful_opq 1024 (by decide)) (fun x1 hx1 => ?_) (fun v hv => hv.1.2.1) (fun v => seqW_cons _ _ _)
  refine Lawful.bind (q2 := seqW [ifP (fun a => kindA a.kind) [ptSet], ifP (fun a => kindB a.kind) [ptOffset]]) Ar.kind lawful_num (fun x2 hx2 => ?_) (fun v hv => hv.1.1.2.2.1) (fun v => seqW_cons _ _ _)
  rcases Bool.eq_false_or_eq_true (kindA x2) with hA | hA
  · rcases Bool.eq_false_or_eq_true (kindB x2) with hB | hB
    · simp only [hA, hB, if_true, Bool.false_eq_true, if_false, Ps.bind_assoc, Ps.pure_bind, Ps.bind_pure']
      refine Lawful.weaken (q := seqW [ptSet, ptOffset]) (wf := fun v => (((v.h.length ≤ 64 ∧ v.name.length ≤ 1024 ∧ v.kind < 4294967296 ∧ v.set.wf ∧ v.offset < 18446744073709551616 ∧ (kindA v.kind = false → v.set = St.zero) ∧ (kindB v.kind = false → v.offset = 0) ∧ v = {Ar.zero p with h := v.h, name := v.name, kind := v.kind, set := v.set, offset := v.offset}) ∧ v.h = x0) ∧ v.name = x1) ∧ v.kind = x2) ?_ (fun v => Iff.rfl) (fun v hv => by
        rw [seqW_if_true (by rw [hv.2]; exact hA), seqW_if_true (by rw [hv.2]; exact hB), seqW_cons, seqW_cons, seqW_cons]; simp only [seqW, List.map, catP, cat2_nil'])
      refine Lawful.bind (q2 := seqW [ptOffset]) Ar.set lawful_set (fun x3 hx3 => ?_) (fun v hv => hv.1.1.1.2.2.2.1) (fun v => seqW_cons _ _ _)
      refine Lawful.bind (q2 := seqW []) Ar.offset lawful_long (fun x4 hx4 => ?_) (fun v hv => hv.1.1.1.1.2.2.2.2.1) (fun v => seqW_cons _ _ _)
      refine Lawful.pure (fun v => ⟨?_, ?_⟩) rfl
      · rintro ⟨⟨⟨⟨⟨⟨_, _, _, _, _, _, _, e⟩, rfl⟩, rfl⟩, rfl⟩, rfl⟩, rfl⟩; exact e
      · rintro rfl; exact ⟨⟨⟨⟨⟨⟨hx0, hx1, hx2, hx3, hx4, fun h => absurd h (by rw [hA]; decide), fun h => absurd h (by rw [hB]; decide), rfl⟩, rfl⟩, rfl⟩, rfl⟩, rfl⟩, rfl⟩
    · simp only [hA, hB, if_true, Bool.false_eq_true, if_false, Ps.bind_assoc, Ps.pure_bind, Ps.bind_pure']
      refine Lawful.weaken (q := seqW [ptSet]) (wf := fun v => (((v.h.length ≤ 64 ∧ v.name.length ≤ 1024 ∧ v.kind < 4294967296 ∧ v.set.wf ∧ v.offset < 18446744073709551616 ∧ (kindA v.kind = false → v.set = St.zero) ∧ (kindB v.kind = false → v.offset = 0) ∧ v = {Ar.zero p with h := v.h, name := v.name, kind := v.kind, set := v.set, offset := v.offset}) ∧ v.h = x0) ∧ v.name = x1) ∧ v.kind = x2) ?_ (fun v => Iff.rfl) (fun v hv => by
        rw [seqW_if_true (by rw [hv.2]; exact hA), seqW_if_false (by rw [hv.2]; exact hB)]; exact (cat2_nil' _).symm)
      refine Lawful.bind (q2 := seqW []) Ar.set lawful_set (fun x3 hx3 => ?_) (fun v hv => hv.1.1.1.2.2.2.1) (fun v => seqW_cons _ _ _)
      refine Lawful.pure (fun v => ⟨?_, ?_⟩) rfl
      · rintro ⟨⟨⟨⟨⟨_, _, _, _, _, _, hz, e⟩, rfl⟩, rfl⟩, rfl⟩, rfl⟩
        rw [hz hB] at e; exact e
      · rintro rfl; exact ⟨⟨⟨⟨⟨hx0, hx1, hx2, hx3, by show (0 : Nat) < _; decide, fun h => absurd h (by rw [hA]; decide), fun _ => rfl, rfl⟩, rfl⟩, rfl⟩, rfl⟩, rfl⟩
  · have hB : kindB x2 = false := by
      rcases Bool.eq_false_or_eq_true (kindB x2) with h | h
      · exact absurd (kindB_A h) (by rw [hA]; decide)
      · exact h
    simp only [hA, hB, if_true, Bool.false_eq_true, if_false, Ps.bind_assoc, Ps.pure_bind, Ps.bind_pure']
    refine Lawful.weaken (q := fun _ => .ok []) (wf := fun v => (((v.h.length ≤ 64 ∧ v.name.length ≤ 1024 ∧ v.kind < 4294967296 ∧ v.set.wf ∧ v.offset < 18446744073709551616 ∧ (kindA v.kind = false → v.set = St.zero) ∧ (kindB v.kind = false → v.offset = 0) ∧ v = {Ar.zero p with h := v.h, name := v.name, kind := v.kind, set := v.set, offset := v.offset}) ∧ v.h = x0) ∧ v.name = x1) ∧ v.kind = x2) ?_ (fun v => Iff.rfl) (fun v hv => by
      rw [seqW_if_false (by rw [hv.2]; exact hA), seqW_if_false (by rw [hv.2]; exact hB)]; rfl)
    refine Lawful.pure (fun v => ⟨?_, ?_⟩) rfl
    · rintro ⟨⟨⟨⟨_, _, _, _, _, hy, hz, e⟩, rfl⟩, rfl⟩, rfl⟩
      rw [hz hB, hy hA] at e; exact e
    · rintro rfl; exact ⟨⟨⟨⟨hx0, hx1, hx2, st0_wf, by show (0 : Nat) < _; decide, fun _ => rfl, fun _ => rfl, rfl⟩, rfl⟩, rfl⟩, rfl⟩
end Go.Proofs.YtgmhapjidbdhnaaGreat
namespace Go.Proofs.YtgmhapjidbdhnaaGreat
open Go.RowKit
theorem law_args (p : Nat) (hp : p ≤ 21) : ∃ wf : Ar → Prop, Lawful (seqR (partsOf p) (Ar.zero p)) (seqW (partsOf p)) wf ∧ ∀ v, wf v → v.proc = p := by
  match p, hp with
  | 0, _ => exact ⟨_, law_null 0, fun v hv => by rw [hv]; rfl⟩
  | 1, _ => exact ⟨_, law_alone 1, fun v hv => by rw [hv.2]; rfl⟩
  | 2, _ => exact ⟨_, law_setattr 2, fun v hv => by rw [hv.2.2.2.2]; rfl⟩
  | 3, _ => exact ⟨_, law_named 3, fun v hv => by rw [hv.2.2]; rfl⟩
  | 4, _ => exact ⟨_, law_access 4, fun v hv => by rw [hv.2.2]; rfl⟩
  | 5, _ => exact ⟨_, law_alone 5, fun v hv => by rw [hv.2]; rfl⟩
  | 6, _ => exact ⟨_, law_read 6, fun v hv => by rw [hv.2.2.2]; rfl⟩
  | 7, _ => exact ⟨_, law_write 7, fun v hv => by rw [hv.2.2.2.2.2]; rfl⟩
  | 8, _ => exact ⟨_, law_create 8, fun v hv => by rw [hv.2.2.2.2.2.2.2]; rfl⟩
  | 9, _ => exact ⟨_, law_mkdir 9, fun v hv => by rw [hv.2.2.2]; rfl⟩
  | 10, _ => exact ⟨_, law_symlink 10, fun v hv => by rw [hv.2.2.2.2]; rfl⟩
  | 11, _ => exact ⟨_, law_mknod 11, fun v hv => by rw [hv.2.2.2.2.2.2.2]; rfl⟩
  | 12, _ => exact ⟨_, law_named 12, fun v hv => by rw [hv.2.2]; rfl⟩
  | 13, _ => exact ⟨_, law_named 13, fun v hv => by rw [hv.2.2]; rfl⟩
  | 14, _ => exact ⟨_, law_rename 14, fun v hv => by rw [hv.2.2.2.2]; rfl⟩
  | 15, _ => exact ⟨_, law_link 15, fun v hv => by rw [hv.2.2.2]; rfl⟩
  | 16, _ => exact ⟨_, law_readdir 16, fun v hv => by rw [hv.2.2.2.2]; rfl⟩
  | 17, _ => exact ⟨_, law_readdirplus 17, fun v hv => by rw [hv.2.2.2.2.2]; rfl⟩
  | 18, _ => exact ⟨_, law_alone 18, fun v hv => by rw [hv.2]; rfl⟩
  | 19, _ => exact ⟨_, law_alone 19, fun v hv => by rw [hv.2]; rfl⟩
  | 20, _ => exact ⟨_, law_alone 20, fun v hv => by rw [hv.2]; rfl⟩
  | n + 22, h => exact absurd h (by omega)
  | 21, _ => exact ⟨_, law_read 21, fun v hv => by rw [hv.2.2.2]; rfl⟩
theorem getA_ok {p : Nat} {xs : List UInt8} {a : Ar} (h : getA p xs = .ok a) : p ≤ 21 ∧ seqR (partsOf p) (Ar.zero p) xs = .ok (a, xs.length) := by
  unfold getA at h
  split at h
  · cases h
  · rename_i hp
    refine ⟨by omega, ?_⟩
    rcases e : seqR (partsOf p) (Ar.zero p) xs with er | ⟨m, k⟩
    · rw [e] at h; cases h
    · rw [e] at h
      dsimp only at h
      split at h
      · rename_i hk; injection h with h; rw [h, hk]
      · cases h
theorem getA_of {p : Nat} {xs : List UInt8} {a : Ar} (hp : p ≤ 21) (h : seqR (partsOf p) (Ar.zero p) xs = .ok (a, xs.length)) : getA p xs = .ok a := by
  rw [getA, if_neg (by omega), h]; simp
theorem putA_ok {a : Ar} {bs : List UInt8} (h : putA a = .ok bs) : a.proc ≤ 21 ∧ seqW (partsOf a.proc) a = .ok bs ∧ getA a.proc bs = .ok a := by
  unfold putA at h
  split at h
  · cases h
  · rename_i hp
    rcases e : seqW (partsOf a.proc) a with er | b
    · rw [e] at h; cases h
    · rw [e] at h
      dsimp only at h
      rcases g : getA a.proc b with er | x
      · rw [g] at h; cases h
      · rw [g] at h
        dsimp only at h
        split at h
        · rename_i hx; injection h with h; subst h; subst hx; exact ⟨by omega, rfl, g⟩
        · cases h
theorem putA_err {a : Ar} {er : Int} (h : putA a = .error er) : er = 1 := by
  unfold putA at h
  split at h
  · injection h with h; exact h.symm
  · rcases e : seqW (partsOf a.proc) a with er' | b
    · rw [e] at h; injection h with h; exact h.symm
    · rw [e] at h
      dsimp only at h
      rcases g : getA a.proc b with er' | x
      · rw [g] at h; injection h with h; exact h.symm
      · rw [g] at h
        dsimp only at h
        split at h
        · cases h
        · injection h with h; exact h.symm
/-- Of fewer bytes nothing is got. -/
theorem put_short {a : Ar} {bs : List UInt8} (h : putA a = .ok bs) (j : Nat) (hj : j < bs.length) : getA a.proc (bs.take j) = .error 4 := by
  obtain ⟨hp, hw, hg⟩ := putA_ok h
  obtain ⟨wf, hL, _⟩ := law_args a.proc hp
  obtain ⟨_, hr⟩ := getA_ok hg
  obtain ⟨_, hv, _⟩ := hL.again _ _ _ hr
  rw [getA, if_neg (by omega), hL.short a bs hv hw j hj]
/-- Nor of more. -/
theorem put_more {a : Ar} {bs : List UInt8} (h : putA a = .ok bs) (c : List UInt8) (hc : 0 < c.length) : getA a.proc (bs ++ c) = .error 5 := by
  obtain ⟨hp, hw, hg⟩ := putA_ok h
  obtain ⟨wf, hL, _⟩ := law_args a.proc hp
  obtain ⟨_, hr⟩ := getA_ok hg
  obtain ⟨_, hv, _⟩ := hL.again _ _ _ hr
  rw [getA, if_neg (by omega), hL.back a bs hv hw c]
  simp only [List.length_append]
  rw [if_neg (by omega)]
/-- What is got is put as it was. -/
theorem get_again {p : Nat} {xs : List UInt8} {a : Ar} (h : getA p xs = .ok a) : a.proc = p ∧ putA a = .ok xs := by
  obtain ⟨hp, hr⟩ := getA_ok h
  obtain ⟨wf, hL, hproc⟩ := law_args p hp
  obtain ⟨_, hv, hq⟩ := hL.again _ _ _ hr
  have e := hproc a hv
  rw [List.take_length] at hq
  refine ⟨e, ?_⟩
  rw [putA, e, if_neg (by omega), hq]
  dsimp only
  rw [h]
  simp
/-- What is put, if what is written of it is read as it. -/
theorem putA_of {a : Ar} {bs : List UInt8} {wf : Ar → Prop} (hp : a.proc ≤ 21) (hL : Lawful (seqR (partsOf a.proc) (Ar.zero a.proc)) (seqW (partsOf a.proc)) wf) (hv : wf a) (hw : seqW (partsOf a.proc) a = .ok bs) : putA a = .ok bs := by
  have hb := hL.back a bs hv hw []
  rw [List.append_nil] at hb
  rw [putA, if_neg (by omega), hw]
  dsimp only
  rw [getA_of hp hb]
  simp
/-- Readers whose errors are three, four or five. -/
def Errs {α : Type} (p : Ps α) : Prop := ∀ xs er, p xs = .error er → er = 3 ∨ er = 4 ∨ er = 5
theorem Errs.pure {α : Type} (x : α) : Errs (Ps.pure x) := fun _ _ h => by cases h
theorem Errs.bind {α β : Type} {p : Ps α} {f : α → Ps β} (h : Errs p) (hf : ∀ x, Errs (f x)) : Errs (Ps.bind p f) := fun xs er he => by
  unfold Ps.bind at he
  rcases e : p xs with e1 | ⟨x, k⟩
  · rw [e] at he; injection he with he; subst he; exact h _ _ e
  · rw [e] at he
    dsimp only at he
    rcases e2 : f x (xs.drop k) with e1 | ⟨y, m⟩
    · rw [e2] at he; injection he with he; subst he; exact hf _ _ _ e2
    · rw [e2] at he; cases he
theorem Errs.need (c : Bool) (e : Int) (h : e = 3 ∨ e = 4 ∨ e = 5) : Errs (Ps.need c e) := fun xs er he => by
  unfold Ps.need at he
  split at he
  · cases he
  · injection he with he; subst he; exact h
theorem Errs.ite {α : Type} {c : Prop} [Decidable c] {p q : Ps α} (h : Errs p) (k : Errs q) : Errs (if c then p else q) := by
  split
  · exact h
  · exact k
theorem errs_num : Errs pNum := fun xs er he => by
  unfold pNum at he
  split at he
  · injection he with he; subst he; exact .inr (.inl rfl)
  · cases he
theorem errs_long : Errs pLong := fun xs er he => by
  unfold pLong at he
  split at he
  · injection he with he; subst he; exact .inr (.inl rfl)
  · cases he
theorem errs_yes : Errs pYes := fun xs er he => by
  unfold pYes at he
  split at he
  · injection he with he; subst he; exact .inr (.inl rfl)
  · split at he
    · injection he with he; subst he; exact .inr (.inr rfl)
    · cases he
theorem errs_time : Errs pTime := fun xs er he => by
  unfold pTime at he
  split at he
  · injection he with he; subst he; exact .inr (.inl rfl)
  · split at he
    · cases he
    · injection he with he; subst he; exact .inr (.inr rfl)
theorem errs_cut (n : Nat) : Errs (pCut n) := fun xs er he => by
  unfold pCut at he
  split at he
  · injection he with he; subst he; exact .inr (.inl rfl)
  · split at he
    · cases he
    · injection he with he; subst he; exact .inr (.inr rfl)
theorem errs_opq (n : Nat) : Errs (pOpq n) := errs_num.bind fun _ => (Errs.need _ 3 (.inl rfl)).bind fun _ => errs_cut _
theorem errs_small (n : Nat) : Errs (pSmall n) := errs_num.bind fun _ => (Errs.need _ 5 (.inr (.inr rfl))).bind fun _ => Errs.pure _
theorem errs_had {α : Type} {p : Ps α} (z : α) (h : Errs p) : Errs (pHad p z) := errs_yes.bind fun y => Errs.ite (h.bind fun _ => Errs.pure _) (Errs.pure _)
theorem errs_mode : Errs pMode := errs_num.bind fun _ => (Errs.need _ 5 (.inr (.inr rfl))).bind fun _ => Errs.pure _
theorem errs_how : Errs pHow := errs_num.bind fun h => (Errs.need _ 5 (.inr (.inr rfl))).bind fun _ => Errs.ite (errs_time.bind fun _ => Errs.pure _) (Errs.pure _)
theorem errs_set : Errs pSet := (errs_had _ errs_mode).bind fun _ => (errs_had _ errs_num).bind fun _ => (errs_had _ errs_num).bind fun _ => (errs_had _ errs_long).bind fun _ => errs_how.bind fun _ => errs_how.bind fun _ => Errs.pure _
/-- Parts whose readers are so. -/
def ErrsP (p : Pt) : Prop := ∀ m, Errs (p.rd m)
theorem errs_field {α : Type} {p : Ps α} {q : α → Except Int (List UInt8)} {get : Ar → α} {set : α → Ar → Ar} (h : Errs p) : ErrsP (fieldP p q get set) := fun m => h.bind fun _ => Errs.pure _
theorem errs_seq {l : List Pt} (h : ∀ p ∈ l, ErrsP p) (m : Ar) : Errs (seqR l m) := by
  induction l generalizing m with
  | nil => exact Errs.pure _
  | cons p l ih => exact (h p (List.mem_cons_self ..) m).bind fun m' => ih (fun q hq => h q (List.mem_cons_of_mem _ hq)) m'
theorem errs_if {c : Ar → Bool} {l : List Pt} (h : ∀ p ∈ l, ErrsP p) : ErrsP (ifP c l) := fun m => Errs.ite (errs_seq h m) (Errs.pure _)
theorem errs_parts (p : Nat) : ∀ q ∈ partsOf p, ErrsP q := by
  have a1 : ErrsP ptH := errs_field (errs_opq _)
  have a2 : ErrsP ptH2 := errs_field (errs_opq _)
  have a3 : ErrsP ptName := errs_field (errs_opq _)
  have a4 : ErrsP ptName2 := errs_field (errs_opq _)
  have a5 : ErrsP ptTarget := errs_field (errs_opq _)
  have a6 : ErrsP ptData := errs_field (errs_opq _)
  have a7 : ErrsP ptSet := errs_field errs_set
  have a8 : ErrsP ptOffset := errs_field errs_long
  have a9 : ErrsP ptCookie := errs_field errs_long
  have b1 : ErrsP ptCount := errs_field errs_num
  have b2 : ErrsP ptBits := errs_field errs_num
  have b3 : ErrsP ptMax := errs_field errs_num
  have b4 : ErrsP ptKind := errs_field errs_num
  have b5 : ErrsP ptVerf := errs_field (errs_cut 8)
  have b6 : ErrsP ptGuard := errs_field errs_time
  have b7 : ErrsP ptYes := errs_field errs_yes
  have b8 : ErrsP ptStable := errs_field (errs_small 2)
  have b9 : ErrsP ptHow := errs_field (errs_small 2)
  have one : ∀ {c : Ar → Bool} {q : Pt}, ErrsP q → ErrsP (ifP c [q]) := fun h => errs_if (fun p hp => by simp only [List.mem_singleton] at hp; subst hp; exact h)
  intro q hq
  unfold partsOf at hq
  split at hq <;> simp only [List.mem_cons, List.not_mem_nil, or_false] at hq <;>
    first
    | (subst hq; first | assumption | exact one (by assumption))
    | (rcases hq with rfl | rfl <;> first | assumption | exact one (by assumption))
    | (rcases hq with rfl | rfl | rfl <;> first | assumption | exact one (by assumption))
    | (rcases hq with rfl | rfl | rfl | rfl <;> first | assumption | exact one (by assumption))
    | (rcases hq with rfl | rfl | rfl | rfl | rfl <;> first | assumption | exact one (by assumption))
/-- Refused as what nobody may ask is just what is none of the procedures. -/
theorem getA_err {p : Nat} {xs : List UInt8} {er : Int} (h : getA p xs = .error er) : (er = 1 ↔ 21 < p) ∧ (er = 1 ∨ er = 3 ∨ er = 4 ∨ er = 5) := by
  unfold getA at h
  split at h
  · rename_i hp; injection h with h; subst h; exact ⟨⟨fun _ => hp, fun _ => rfl⟩, .inl rfl⟩
  · rename_i hp
    have key : er = 3 ∨ er = 4 ∨ er = 5 := by
      rcases e : seqR (partsOf p) (Ar.zero p) xs with e1 | ⟨m, k⟩
      · rw [e] at h; injection h with h; subst h; exact errs_seq (errs_parts p) _ _ _ e
      · rw [e] at h
        dsimp only at h
        split at h
        · cases h
        · injection h with h; subst h; exact .inr (.inr rfl)
    exact ⟨⟨fun h => by omega, fun h => by omega⟩, by omega⟩
end Go.Proofs.YtgmhapjidbdhnaaGreat

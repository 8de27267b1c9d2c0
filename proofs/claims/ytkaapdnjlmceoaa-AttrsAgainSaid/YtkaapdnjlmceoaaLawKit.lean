/- The laws' helpers: SameBytes, append of bytes that came in, a whole struct in a new block. -/
import Derived.Test.YtkaapdnjlmceoaaLaw1
import Derived.Test.YtkaapdnjlmceoaaBig
import Derived.Test.YtkaapdnjlmceoaaDPut
import Derived.Laws.AppendOwnNone
set_option linter.unusedVariables false
set_option linter.unusedSimpArgs false
namespace Go.Proofs.Ytkaapdnjlmceoaa
open Go.RowKit
theorem OwnL.made (w : World) (l : List Value) (t : TypeId) : OwnL (w.alloc (.cells l.toArray t)) w.heap.size l := ⟨by simp, fun o => by simp [go_sem], fun o => by simp [go_sem]⟩
theorem wpList_store_new {P : Program} {ops : Array Oper} {rest : List Oper} {op : Oper} {a : Act} {w : World} {Q : Exit → Act → World → Prop} (hgd : op.guard = none) (ty : TypeId) (x y : Operand) (ho : op.op = .store ty x y)
    {zs : List Value} (cs : List Value) (hx : a.eval x = .pointer (some ⟨w.heap.size, 0, none⟩)) (hy : a.eval y = .agg cs.toArray) (hl : cs.length = zs.length) (hi : (P.info? ty).map (·.size) = some cs.length) (h1 : ∀ v ∈ cs, v.oneCell' = true)
    (h : ∀ wx, Below w.heap.size w wx → OwnL wx w.heap.size cs → wpList P ops Q rest (a.put op.dst undef) wx) : wpList P ops Q (op :: rest) a (w.alloc (.cells zs.toArray ty)) := by
  have hn := OwnL.made w zs ty
  refine wpList_store_mid hgd ty x y ho w.heap.size 0 cs.toArray hx hy ?_ ?_ (all_oneCell_toArray h1) (h _ (bl_setCells (bl_alloc (Below.refl _ _) _) (Nat.le_refl _)) (hn.sets hl))
  · have := hn.there; simpa [hl] using this
  · simpa using hi
theorem OwnL.belowm {w w' : World} {b m : Nat} {l : List Value} (h : OwnL w b l) (hb : Below m w w') (hm : b < m) : OwnL w' b l :=
  ⟨Nat.lt_of_lt_of_le h.1 hb.size, fun o => (hb.cell (p := ⟨b, o, none⟩) hm).trans (h.2.1 o), fun o => (hb.frozen (p := ⟨b, o, none⟩) hm).trans (h.2.2 o)⟩
theorem OwnL.trk {w w' : World} {b : Nat} {l : List Value} (h : OwnL w b l) (hb : Below w.heap.size w w') : OwnL w' b l := h.belowm hb h.1
theorem OwnL.load {P : Program} {w : World} {b : Nat} {l : List Value} {ty : TypeId} (h : OwnL w b l) (d : TypeDesc) (hu : P.underlying ty = some d) (hd : d.isRow = true) (hi : (P.info? ty).map (·.size) = some l.length) :
    (Instr.loadAt ty (.pointer (some ⟨b, 0, none⟩))).run P w = .ok (.agg l.toArray) w := run_loadAt_mid w b 0 ty l d h.range hu hd hi
set_option maxRecDepth 100000 in
theorem oper_append_bs {w : World} {o : Oper} {a : Act} {K : Act → World → Prop} {Q : Exit → Act → World → Prop} {base n cap : Nat} {v : Value} {A : Option Addr} {xs ys : List UInt8} (s x : Operand)
    (ho : o.op = .call { callee := .builtin .append, args := #[s, x], argTypes := #[22, 22] })
    (hs : a.eval s = v) (hx : a.eval x = .slice A n cap) (h1 : OwnB w base v xs) (h2 : Bs w A n ys) (hnil : A = none → cap = 0) (hlen : xs.length + n ≤ 1099511627776) (hbase : base ≤ w.heap.size)
    (h : ∀ v' w', OwnB w' base v' (xs ++ ys) → Below base w w' → K (a.put o.dst v') w') : Oper.wp Try.prog o a w K Q := by
  obtain ⟨i0, hi, hz⟩ : ∃ i0, Try.prog.info? 5 = some i0 ∧ (i0.zero, i0.size, i0.bytes) = (some (.int .u8 0), 1, 1) := by
    have hi := info_u8
    cases he : Try.prog.info? 5 with
    | none => rw [he] at hi; cases hi
    | some i0 => rw [he] at hi; exact ⟨i0, rfl, by simpa using hi⟩
  simp only [Prod.mk.injEq] at hz
  have h1' := h1
  unfold OwnB at h1'
  cases A with
  | none =>
    have hn : n = 0 := by
      rcases Nat.eq_zero_or_pos n with h0 | hp
      · exact h0
      · obtain ⟨b, off, e, _⟩ := h2.2.2 hp; cases e
    subst hn
    rw [hnil rfl] at hx
    have hy : ys = [] := List.eq_nil_of_length_eq_zero h2.1
    have hrun := run_append_owned_none (P := Try.prog) (w := w) base 22 o.type 5 i0 1 Try.underlying22 hi v _ _ h1'
    have := h v w (by rw [hy, List.append_nil]; exact h1) (Below.refl _ _)
    unfold Oper.wp
    simp [execOp, ho, resolve, invoke, builtin, hs, hx, hrun, Result.andThen]
    exact this
  | some ad =>
    have hcell : ∀ j u, (u8s ys)[j]? = some u → w.cell? (ad.add j) = some u := fun j u hu => by
      have hj : j < ys.length := by have := (List.getElem?_eq_some_iff.1 hu).1; simpa [u8s] using this
      obtain ⟨b, off, e, hl, hc⟩ := h2.2.2 (by rw [← h2.1]; omega)
      injection e with e; subst e
      rw [Addr.add_lit, hc j (by rw [← h2.1]; exact hj), ← hu]
      simp [u8s, List.getD, List.getElem?_eq_getElem hj]
    refine wp_append_own w s x 22 ho base 5 i0 (.int .u8 0) 1 1 Try.underlying22 hi hz.1 hz.2.1 hz.2.2 rfl (by decide) v _ _ hs h1' ad n cap (u8s ys) hx (by simp [u8s, h2.1]) hcell (by intro u hu; obtain ⟨y, _, rfl⟩ := List.mem_map.1 hu; rfl) (by unfold maxLen; omega) (by omega) hbase ?_
    intro v' w' ho' hg' _
    refine h v' w' ?_ ⟨hg'.os, hg'.tape, hg'.output, hg'.size, fun i hi => hg'.block i (by omega) ?_⟩
    · rw [← u8s_append] at ho'
      unfold OwnB
      rw [List.length_append, h2.1]
      exact ho'
    · rcases h1.2 with ⟨rfl, _⟩ | ⟨g1, c1, cur1, rfl, hb1, _⟩
      · simp [Value.ownBlock]
      · simp [Value.ownBlock]; omega
theorem wp_append_bs {w : World} {ops : Array Oper} {rest : List Oper} {o : Oper} {a : Act} {Q : Exit → Act → World → Prop} {base n cap : Nat} {v : Value} {A : Option Addr} {xs ys : List UInt8} (hgd : o.guard = none) (s x : Operand)
    (ho : o.op = .call { callee := .builtin .append, args := #[s, x], argTypes := #[22, 22] })
    (hs : a.eval s = v) (hx : a.eval x = .slice A n cap) (h1 : OwnB w base v xs) (h2 : Bs w A n ys) (hnil : A = none → cap = 0) (hlen : xs.length + n ≤ 1099511627776) (hbase : base ≤ w.heap.size)
    (h : ∀ v' w', OwnB w' base v' (xs ++ ys) → Below base w w' → wpList Try.prog ops Q rest (a.put o.dst v') w') : wpList Try.prog ops Q (o :: rest) a w :=
  wpList_plain hgd fun _ hK => oper_append_bs s x ho hs hx h1 h2 hnil hlen hbase fun v' w' a b => hK _ _ (h v' w' a b)
theorem take_ext {xs ys : List UInt8} {k : Nat} (h1 : k < xs.length) (h2 : k < ys.length) (h : xs.take k = ys.take k) : xs.take (k + 1) = ys.take (k + 1) ↔ xs.getD k 0 = ys.getD k 0 := by
  rw [List.take_succ_eq_append_getElem h1, List.take_succ_eq_append_getElem h2, h, List.append_cancel_left_eq]
  simp [List.getD, List.getElem?_eq_getElem h1, List.getElem?_eq_getElem h2]
section
variable {A B : Option Addr} {n m cap cap2 : Nat} {xs ys : List UInt8} {w : World}
set_option maxRecDepth 100000 in
set_option maxHeartbeats 1000000 in
theorem Same_len (hA : Bs w A n xs) (hB : Bs w B m ys) (hne : n ≠ m) :
    Calls Try.prog 27 #[.slice A n cap, .slice B m cap2] w fun e w' => e = .returned (.bool false) ∧ w = w' := by
  have h1 := hA.2.1; have h2 := hB.2.1
  have hd : ((n : Int) == m) = false := by simp; omega
  clear hA hB hne
  go_enter Try.func27, Try.ntmps27
  go_wp2_with fail
  go_ret
  exact ⟨rfl, rfl⟩
set_option maxRecDepth 100000 in
set_option maxHeartbeats 1000000 in
theorem Same_go (hA : Bs w A n xs) (hB : Bs w B n ys) :
    Calls Try.prog 27 #[.slice A n cap, .slice B n cap2] w fun e w' => e = .returned (.bool (decide (xs = ys))) ∧ Below w.heap.size w w' := by
  have h1 := hA.2.1
  have HA := Lib.hid hA; have HB := Lib.hid hB
  clear hA hB
  go_enter Try.func27, Try.ntmps27
  go_wp2_with fail
  go_loopw [5] (fun i wr => ∃ k : Nat, k ≤ n ∧ i = .int .i64 k ∧ xs.take k = ys.take k ∧ ∃ m, wr = w.drewN m) (fun i _ => n - (intOf i).toNat)
  case atStart => exact ⟨0, by omega, rfl, rfl, 0, rfl⟩
  case round =>
    obtain ⟨k, hk, rfl, htk, m, rfl⟩ := hrel
    have HT := Lib.hid htk; clear htk
    by_cases hlt : k < n
    · obtain ⟨b, off, rfl, hl, hcell⟩ := HA.out.2.2 (by omega)
      obtain ⟨b2, off2, rfl, hl2, hcell2⟩ := HB.out.2.2 (by omega)
      have hc1 := hcell k hlt
      have hc2 := hcell2 k hlt
      have HX := Lib.hid (take_ext (by rw [HA.out.1]; exact hlt) (by rw [HB.out.1]; exact hlt) HT.out)
      clear hcell hcell2 hl hl2
      by_cases he : xs.getD k 0 = ys.getD k 0
      · have HE := Lib.hid (HX.out.2 he)
        rw [he] at hc1
        clear he HX
        generalize (ys.getD k 0).toNat = c at hc1 hc2
        go_wp2_with fail
        go_quiet (fail)
        go_wp2
        go_roundw
        case rel => exact ⟨k + 1, by omega, by go_num, HE.out, _, rfl⟩
        case measure => simp [intOf]; omega
      · have hd : (((xs.getD k 0).toNat : Int) == ((ys.getD k 0).toNat : Int)) = false := by
          simp only [beq_eq_false_iff_ne, ne_eq]
          intro hh; exact he (UInt8.toNat.inj (by omega))
        have HF : Hid (xs ≠ ys) := Lib.hid (fun e => he (by rw [e]))
        clear he HX
        generalize (xs.getD k 0).toNat = c1 at hc1 hd
        generalize (ys.getD k 0).toNat = c2 at hc2 hd
        go_wp2_with fail
        go_quiet (fail)
        go_wp2
        go_ret
        exact ⟨by rw [decide_eq_false HF.out]; rfl, by (with_reducible (repeat' (first | exact Below.refl _ _ | assumption | apply bl_alloc | apply bl_drewN | apply bl_drew | refine bl_set ?_ ?_ _))) <;> (first | done | (simp; done) | (simp; omega) | omega)⟩
    · obtain rfl : k = n := by omega
      have HF : Hid (xs = ys) := Lib.hid (by have := HT.out; rwa [List.take_of_length_le (by rw [HA.out.1]; exact Nat.le_refl _), List.take_of_length_le (by rw [HB.out.1]; exact Nat.le_refl _)] at this)
      go_wp2_with fail
      go_ret
      exact ⟨by rw [decide_eq_true HF.out]; rfl, by (with_reducible (repeat' (first | exact Below.refl _ _ | assumption | apply bl_alloc | apply bl_drewN | apply bl_drew | refine bl_set ?_ ?_ _))) <;> (first | done | (simp; done) | (simp; omega) | omega)⟩
theorem Same_any (hA : Bs w A n xs) (hB : Bs w B m ys) :
    Calls Try.prog 27 #[.slice A n cap, .slice B m cap2] w fun e w' => e = .returned (.bool (decide (xs = ys))) ∧ Below w.heap.size w w' := by
  by_cases h : n = m
  · subst h; exact Same_go hA hB
  · refine (Same_len hA hB h).mono ?_
    rintro e w' ⟨rfl, rfl⟩
    exact ⟨by rw [decide_eq_false]; intro hh; exact h (by rw [← hA.1, ← hB.1, hh]), Below.refl _ _⟩
end
end Go.Proofs.Ytkaapdnjlmceoaa

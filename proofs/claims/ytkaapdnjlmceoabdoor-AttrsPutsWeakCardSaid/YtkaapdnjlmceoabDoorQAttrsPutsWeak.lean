/- What was told ahead and behind is put as the document's bytes, or refused; AttrsPutsWeak answers true. No condition. Printed by gen_rows.py. -/
import Derived.Test.YtkaapdnjlmceoabDoorQPuts
import Derived.Test.YtkaapdnjlmceoabDoorDPutSetB
import Derived.Test.YtkaapdnjlmceoabDoorDPutWeak
import Derived.Test.YtkaapdnjlmceoabDoorRow
import Derived.Test.YtkaapdnjlmceoabDoorFlatAll
import Derived.Test.YtkaapdnjlmceoabDoorRows
import Derived.LaidMore
import Derived.Lay
import Derived.MakeChecks
import Derived.Test.YtkaapdnjlmceoabDoorCards
import Derived.Test.YtkaapdnjlmceoabDoorTie
set_option linter.unusedVariables false
set_option linter.unusedSimpArgs false
namespace Go.Proofs.YtkaapdnjlmceoabDoor
open Go.RowKit
def optB (has : Bool) (b : List UInt8) : List UInt8 := putYes has ++ (if has = true then b else [])
def howB (h : Nat) (t : Tm) : List UInt8 := put4 h ++ (if h = 2 then putTm t else [])
def putSt (s : St) : List UInt8 := optB s.hasMode (put4 s.mode) ++ (optB s.hasUser (put4 s.user) ++ (optB s.hasGroup (put4 s.group) ++ (optB s.hasSize (put8 s.size) ++ (howB s.readHow s.read ++ howB s.writeHow s.write))))
def badS (s : St) : Bool := decide (4095 < s.mode) || ((!s.hasMode && !(s.mode == 0)) || ((!s.hasUser && !(s.user == 0)) || ((!s.hasGroup && !(s.group == 0)) || ((!s.hasSize && !(s.size == 0)) || (decide (2 < s.readHow) || (decide (2 < s.writeHow) || ((!(s.readHow == 2) && !(s.read == ⟨0, 0⟩)) || ((!(s.writeHow == 2) && !(s.write == ⟨0, 0⟩)) || (!s.read.ok || !s.write.ok)))))))))
theorem rOpt_if (has : Bool) (n : Nat) (b : List UInt8) : rOpt has ((n : Int) == 0) [.ok b] = if (!has && !(n == 0)) = true then .error 1 else .ok (optB has b) := by
  have e : ((n : Int) == 0) = (n == 0) := by
    rcases Bool.eq_false_or_eq_true (n == 0) with h | h
    · rw [h]; simp at h; simp [h]
    · rw [h]; simp at h; simp [h]
  rw [e]
  generalize (n == 0) = z
  cases has <;> cases z <;> simp [rOpt, catP, optB]
theorem rHow_if (h : Nat) (t : Tm) : rHow h t = if (decide (2 < h) || ((!(h == 2) && !(t == ⟨0, 0⟩)) || !t.ok)) = true then .error 1 else .ok (howB h t) := by
  by_cases h2 : h = 2
  · subst h2
    rcases Bool.eq_false_or_eq_true t.ok with ho | ho <;> simp [rHow, rTime, catP, howB, ho]
  · by_cases hz : t = ⟨0, 0⟩
    · subst hz
      by_cases hl : 2 < h
      · simp [rHow, hl, show ¬ h ≤ 2 by omega]
      · simp [rHow, hl, show h ≤ 2 by omega, h2, howB, Tm.ok]
    · have : (t == ⟨0, 0⟩) = false := by simpa using hz
      simp [rHow, h2, this, hz]
theorem rSet_if (s : St) : rSet s = if badS s = true then .error 1 else .ok (putSt s) := by
  unfold rSet setL
  simp only [rOpt_if, rHow_if]
  have e : badS s = (decide (4095 < s.mode) || ((!s.hasMode && !(s.mode == 0)) || ((!s.hasUser && !(s.user == 0)) || ((!s.hasGroup && !(s.group == 0)) || ((!s.hasSize && !(s.size == 0)) || ((decide (2 < s.readHow) || ((!(s.readHow == 2) && !(s.read == ⟨0, 0⟩)) || !s.read.ok)) || (decide (2 < s.writeHow) || ((!(s.writeHow == 2) && !(s.write == ⟨0, 0⟩)) || !s.write.ok)))))))) := by
    unfold badS
    ac_rfl
  rw [e]; clear e
  unfold putSt
  generalize (!s.hasMode && !(s.mode == 0)) = c1
  generalize (!s.hasUser && !(s.user == 0)) = c2
  generalize (!s.hasGroup && !(s.group == 0)) = c3
  generalize (!s.hasSize && !(s.size == 0)) = c4
  generalize (decide (2 < s.readHow) || ((!(s.readHow == 2) && !(s.read == ⟨0, 0⟩)) || !s.read.ok)) = c5
  generalize (decide (2 < s.writeHow) || ((!(s.writeHow == 2) && !(s.write == ⟨0, 0⟩)) || !s.write.ok)) = c6
  by_cases hm : s.mode ≤ 4095
  · rw [if_pos hm]
    have hd : decide (4095 < s.mode) = false := by simp; omega
    rw [hd]
    cases c1
    · cases c2
      · cases c3
        · cases c4
          · cases c5
            · cases c6 <;> simp [catP]
            · simp [catP]
          · simp [catP]
        · simp [catP]
      · simp [catP]
    · simp [catP]
  · rw [if_neg hm]
    have hd : decide (4095 < s.mode) = true := by simp; omega
    rw [hd]; simp
theorem oper_append_bytes2 {w : World} {o : Oper} {a : Act} {K : Act → World → Prop} {Q : Exit → Act → World → Prop} {base base2 : Nat} {v v2 : Value} {xs ys : List UInt8} (s x : Operand)
    (ho : o.op = .call { callee := .builtin .append, args := #[s, x], argTypes := #[31, 31] })
    (hs : a.eval s = v) (hx : a.eval x = v2) (h1 : OwnB w base v xs) (h2 : OwnB w base2 v2 ys) (hne : 0 < ys.length) (hlen : xs.length + ys.length ≤ 1099511627776) (hbase : base ≤ w.heap.size)
    (h : ∀ v' w', OwnB w' base v' (xs ++ ys) → w.grownBy w' v.ownBlock → Below base w w' → K (a.put o.dst v') w') : Oper.wp Tryd.prog o a w K Q := by
  obtain ⟨g, cap, rfl, hg, hgs, hc1, hc2, hcell⟩ := h2.slice hne
  have hi := info_u8
  obtain ⟨i0, hi, hz⟩ : ∃ i0, Tryd.prog.info? 5 = some i0 ∧ (i0.zero, i0.size, i0.bytes) = (some (.int .u8 0), 1, 1) := by
    cases he : Tryd.prog.info? 5 with
    | none => rw [he] at hi; cases hi
    | some i0 => rw [he] at hi; exact ⟨i0, rfl, by simpa using hi⟩
  simp only [Prod.mk.injEq] at hz
  have h1' := h1
  unfold OwnB at h1'
  refine wp_append_own w s x 31 ho base 5 i0 (.int .u8 0) 1 1 Tryd.underlying31 hi hz.1 hz.2.1 hz.2.2 rfl (by decide) v _ _ hs h1' _ _ _ (u8s ys) hx (by simp [u8s]) hcell (by intro u hu; obtain ⟨y, _, rfl⟩ := List.mem_map.1 hu; rfl) (by unfold maxLen; omega) (by omega) hbase ?_
  intro v' w' ho' hg' _
  refine h v' w' ?_ hg' ⟨hg'.os, hg'.tape, hg'.output, hg'.size, fun i hi => hg'.block i (by omega) ?_⟩
  · rw [← u8s_append, ← List.length_append] at ho'; exact ho'
  · rcases h1.2 with ⟨rfl, _⟩ | ⟨g1, c1, cur1, rfl, hb1, _⟩
    · simp [Value.ownBlock]
    · simp [Value.ownBlock]; omega
theorem wp_append_bytes2 {w : World} {ops : Array Oper} {rest : List Oper} {o : Oper} {a : Act} {Q : Exit → Act → World → Prop} {base base2 : Nat} {v v2 : Value} {xs ys : List UInt8} (hgd : o.guard = none) (s x : Operand)
    (ho : o.op = .call { callee := .builtin .append, args := #[s, x], argTypes := #[31, 31] })
    (hs : a.eval s = v) (hx : a.eval x = v2) (h1 : OwnB w base v xs) (h2 : OwnB w base2 v2 ys) (hne : 0 < ys.length) (hlen : xs.length + ys.length ≤ 1099511627776) (hbase : base ≤ w.heap.size)
    (h : ∀ v' w', OwnB w' base v' (xs ++ ys) → w.grownBy w' v.ownBlock → Below base w w' → wpList Tryd.prog ops Q rest (a.put o.dst v') w') : wpList Tryd.prog ops Q (o :: rest) a w :=
  wpList_plain hgd fun _ hK => oper_append_bytes2 s x ho hs hx h1 h2 hne hlen hbase fun v' w' a b c => hK _ _ (h v' w' a b c)
/-- Bytes in another block stay, when a list grows. -/
theorem OwnB.beside {w w' : World} {base : Nat} {v u : Value} {bs : List UInt8} (h : OwnB w base v bs) (hg : w.grownBy w' u.ownBlock) (hne : ∀ p q, v.ownBlock = some p → u.ownBlock = some q → p ≠ q) : OwnB w' base v bs := by
  unfold OwnB at *
  rcases hu : u.ownBlock with _ | q
  · rw [hu] at hg
    rcases h.2 with hn | ⟨g, cap, cur, hv, hb, hh, hr⟩
    · exact ⟨h.1, .inl hn⟩
    · exact ⟨h.1, .inr ⟨g, cap, cur, hv, hb, (hg.block g (Array.getElem?_eq_some_iff.1 hh).1 (by simp)).trans hh, hr⟩⟩
  · rw [hu] at hg
    rcases h.2 with hn | ⟨g, cap, cur, hv, hb, hh, hr⟩
    · exact ⟨h.1, .inl hn⟩
    · exact ⟨h.1, .inr ⟨g, cap, cur, hv, hb, (hg.block g (Array.getElem?_eq_some_iff.1 hh).1 (by intro e; injection e with e; exact hne g q (by rw [hv]; rfl) hu e)).trans hh, hr⟩⟩
theorem HKeep {w w' w0 : World} {T base : Nat} {l : List Value} {v : Value} {xs : List UInt8} (h : OwnL w T l) (hg : w.grownBy w' v.ownBlock) (hv : OwnB w0 base v xs) (hT : w0.heap.size ≤ T := by exact Nat.le_refl _) : OwnL w' T l := by
  have h1 := World.ownsRow.lt hv
  rcases hu : v.ownBlock with _ | q
  · rw [hu] at hg
    have hb : Below w.heap.size w w' := ⟨hg.os, hg.tape, hg.output, hg.size, fun i hi => hg.block i hi (by simp)⟩
    exact h.trk hb
  · rw [hu] at hg
    have := (h1 q hu).2
    exact h.grown hg (by omega)
set_option maxRecDepth 100000 in
theorem RefPutYes (b : Bool) (w : World) : Calls Tryd.prog 35 #[.bool b] w fun e w' => ∃ v, e = .returned v ∧ OwnB w' w.heap.size v (putYes b) ∧ Below w.heap.size w w' := by
  cases b
  · have e : putYes false = put4 0 := by rw [putYes, if_neg (by decide)]
    rw [e]
    have H0 := Lib.hid (RPut_any 0 (by omega))
    generalize put4 0 = ps at H0 ⊢
    go_enter Tryd.func35, Tryd.ntmps35
    go_wp2_with (go_at_call 34; (refine Calls.mono (H0.out _) ?_; rintro e w1 ⟨v1, rfl, o1, b1⟩))
    go_ret
    exact ⟨_, rfl, o1, b1⟩
  · have e : putYes true = put4 1 := by rw [putYes, if_pos rfl]
    rw [e]
    have H1 := Lib.hid (RPut_any 1 (by omega))
    generalize put4 1 = ps at H1 ⊢
    go_enter Tryd.func35, Tryd.ntmps35
    go_wp2_with (go_at_call 34; (refine Calls.mono (H1.out _) ?_; rintro e w1 ⟨v1, rfl, o1, b1⟩))
    go_ret
    exact ⟨_, rfl, o1, b1⟩
theorem putYes_length (b : Bool) : (putYes b).length = 4 := by cases b <;> rfl
set_option maxRecDepth 100000 in
set_option maxHeartbeats 2000000 in
theorem RefOption {w : World} {base base2 : Nat} {v v2 : Value} {xs ys : List UInt8} (has : Bool) (h1 : OwnB w base v xs) (h2 : OwnB w base2 v2 ys) (hbase : base ≤ w.heap.size) (hne : ∀ p q, v2.ownBlock = some p → v.ownBlock = some q → p ≠ q) (hy : 0 < ys.length) (hy2 : ys.length ≤ 1000) (hx : xs.length ≤ 1000) :
    Calls Tryd.prog 17 #[v, .bool has, v2] w fun e w' => ∃ v', e = .returned v' ∧ OwnB w' base v' (xs ++ optB has ys) ∧ Below base w w' := by
  have H1 := Lib.hid h1
  have H2 := Lib.hid h2
  have HN := Lib.hid hne
  have hl : (xs ++ putYes has).length ≤ 1004 := by rw [List.length_append, putYes_length]; omega
  have hl4 := putYes_length has
  clear h1 h2 hne
  rcases Bool.eq_false_or_eq_true has with hb | hb
  · subst hb
    have e : xs ++ optB true ys = (xs ++ putYes true) ++ ys := by rw [optB, if_pos rfl, List.append_assoc]
    rw [e]; clear e
    have HY := Lib.hid (RefPutYes true w)
    generalize putYes true = ps at *
    go_enter Tryd.func17, Tryd.ntmps17
    go_wp2_with (first
      | (go_at_call 35; refine Calls.mono HY.out ?_; rintro e w1 ⟨v1, rfl, o1, b1⟩; (have o0 := H1.out.below b1); (have o2 := H2.out.below b1); (have hz := b1.size))
      | (at_builtin; refine wp_append_bytes2 rfl _ _ rfl rfl rfl o0 o1 (by omega) (by omega) (by omega) ?_; intro v' w3 o3 g3 b3; (have o4 := o2.beside g3 HN.out); (have hz3 := b3.size); clear o0 o2 g3)
      | (at_builtin; refine wp_append_bytes rfl _ _ rfl rfl rfl o3 o4 hy (by omega) (by omega) ?_; intro v'' w5 o5 b5))
    go_ret
    exact ⟨_, rfl, o5, ((b1.mono hbase).trans b3).trans b5⟩
  · subst hb
    have e : xs ++ optB false ys = (xs ++ putYes false) := by rw [optB, if_neg (by decide), List.append_nil]
    rw [e]; clear e
    have HY := Lib.hid (RefPutYes false w)
    generalize putYes false = ps at *
    go_enter Tryd.func17, Tryd.ntmps17
    go_wp2_with (first
      | (go_at_call 35; refine Calls.mono HY.out ?_; rintro e w1 ⟨v1, rfl, o1, b1⟩; (have o0 := H1.out.below b1); (have hz := b1.size))
      | (at_builtin; refine wp_append_bytes rfl _ _ rfl rfl rfl o0 o1 (by omega) (by omega) (by omega) ?_; intro v' w3 o3 b3))
    go_ret
    exact ⟨_, rfl, o3, (b1.mono hbase).trans b3⟩
end Go.Proofs.YtkaapdnjlmceoabDoor
namespace Go.Proofs.YtkaapdnjlmceoabDoor
open Go.RowKit
def badW (k : Wk) : Bool := ((((!k.hasBefore && !zB k) || (!k.hasAfter && !(k.after == At.zero))) || (k.hasAfter && !k.after.may)) || !k.write.ok) || !k.turn.ok
def putWk (k : Wk) : List UInt8 := optB k.hasBefore (put8 k.size ++ putTm k.write ++ putTm k.turn) ++ optB k.hasAfter (putAt k.after)
theorem zB_ok {k : Wk} (h : zB k = true) : k.write.ok = true ∧ k.turn.ok = true := by
  unfold zB at h
  have := of_decide_eq_true h
  exact ⟨by simp [Tm.ok, this], by simp [Tm.ok, this]⟩
theorem rWeak_if (k : Wk) : catP (weakL k) = if badW k = true then .error 1 else .ok (putWk k) := by
  have hz := @zB_ok k
  have e : rTold k.after = if k.after.may then .ok (putAt k.after) else .error 1 := rTold_eq _
  unfold weakL badW putWk
  rw [e]; clear e
  unfold rTime
  generalize (k.after == At.zero) = za at *
  generalize k.after.may = ma at *
  generalize zB k = zb at *
  generalize k.write.ok = ow at *
  generalize k.turn.ok = ot at *
  generalize k.hasBefore = hb at *
  generalize k.hasAfter = ha at *
  generalize put8 k.size = p1 at *
  generalize putTm k.write = p2 at *
  generalize putTm k.turn = p3 at *
  generalize putAt k.after = p4 at *
  cases zb
  · cases hb <;> cases ha <;> cases za <;> cases ma <;> cases ow <;> cases ot <;> simp [catP, rOpt, optB]
  · obtain ⟨rfl, rfl⟩ := hz rfl
    cases hb <;> cases ha <;> cases za <;> cases ma <;> simp [catP, rOpt, optB]
theorem putWk_len (k : Wk) : (putWk k).length ≤ 200 := by
  unfold putWk optB
  simp only [List.length_append, putYes_length]
  split <;> split <;> simp only [List.length_append, List.length_nil, put8_length, putTm_length, putAt_length] <;> omega
end Go.Proofs.YtkaapdnjlmceoabDoor
namespace Go.Proofs.YtkaapdnjlmceoabDoor
open Go.RowKit
theorem stopAt (d : Nat) {P : Program} {ops : Array Oper} {Q : Exit → Act → World → Prop} {o : Oper} {rest : List Oper} {a : Act} {w : World} (hd : o.dst = some d) (h : wpList P ops Q (o :: rest) a w) : wpList P ops Q (o :: rest) a w := h
theorem seg9 (d : Nat) {P : Program} {ops : Array Oper} {Q : Exit → Act → World → Prop} {o : Oper} {rest : List Oper} {a : Act} {w : World} (hd : o.dst = some d) (m : Nat) (C : Bool) (f : Act → Bool → Value → Value → Value → Value → Value → Value → Value → Value → Value → Act) (leaf : (∀ (b : Bool) (j0 j1 j2 j3 j4 j5 j6 j7 j8 : Value), b = C → wpList P ops Q ((o :: rest).drop m) (f a b j0 j1 j2 j3 j4 j5 j6 j7 j8) w) → wpList P ops Q (o :: rest) a w) (H : ∀ (b : Bool) (j0 j1 j2 j3 j4 j5 j6 j7 j8 : Value), b = C → wpList P ops Q ((o :: rest).drop m) (f a b j0 j1 j2 j3 j4 j5 j6 j7 j8) w) : wpList P ops Q (o :: rest) a w := leaf H
theorem seg19 (d : Nat) {P : Program} {ops : Array Oper} {Q : Exit → Act → World → Prop} {o : Oper} {rest : List Oper} {a : Act} {w : World} (hd : o.dst = some d) (m : Nat) (C : Bool) (f : Act → Bool → Value → Value → Value → Value → Value → Value → Value → Value → Value → Value → Value → Value → Value → Value → Value → Value → Value → Value → Value → Act) (leaf : (∀ (b : Bool) (j0 j1 j2 j3 j4 j5 j6 j7 j8 j9 j10 j11 j12 j13 j14 j15 j16 j17 j18 : Value), b = C → wpList P ops Q ((o :: rest).drop m) (f a b j0 j1 j2 j3 j4 j5 j6 j7 j8 j9 j10 j11 j12 j13 j14 j15 j16 j17 j18) w) → wpList P ops Q (o :: rest) a w) (H : ∀ (b : Bool) (j0 j1 j2 j3 j4 j5 j6 j7 j8 j9 j10 j11 j12 j13 j14 j15 j16 j17 j18 : Value), b = C → wpList P ops Q ((o :: rest).drop m) (f a b j0 j1 j2 j3 j4 j5 j6 j7 j8 j9 j10 j11 j12 j13 j14 j15 j16 j17 j18) w) : wpList P ops Q (o :: rest) a w := leaf H
theorem OwnL.sub {w : World} {b : Nat} {l : List Value} (h : OwnL w b l) (o : Nat) (cs : List Value) (hcs : (l.drop o).take cs.length = cs) : w.rangeAt b o cs := fun j v hj => (h.2.1 (o + j)).trans (by
  have hlt : j < cs.length := (List.getElem?_eq_some_iff.1 hj).1
  have e : cs[j]? = ((l.drop o).take cs.length)[j]? := by rw [hcs]
  rw [e, List.getElem?_take, if_pos hlt, List.getElem?_drop] at hj
  exact hj)
theorem wpList_load_sub {P : Program} {ops : Array Oper} {rest : List Oper} {op : Oper} {a : Act} {w : World} {Q : Exit → Act → World → Prop} {b : Nat} {l : List Value} (hw : Region.wanted op (yielded ops a.tmps) = true) (ty : TypeId) (x : Operand) (ho : op.op = .load ty x) (o : Nat)
    (hx : a.eval x = .pointer (some ⟨b, o, none⟩)) (h : OwnL w b l) (cs : List Value) (hcs : (l.drop o).take cs.length = cs) (d : TypeDesc) (hu : P.underlying ty = some d) (hd : d.isRow = true) (hi : (P.info? ty).map (·.size) = some cs.length)
    (hn : wpList P ops Q rest (a.put op.dst (.agg cs.toArray)) w) : wpList P ops Q (op :: rest) a w :=
  wpList_step fun K hK => by
    rw [if_pos hw]
    exact wp_load_mid ty x ho b o hx cs d (h.sub o cs hcs) hu hd hi (hK _ _ hn)
set_option maxRecDepth 100000 in
set_option maxHeartbeats 16000000 in
theorem RefPutWeak {k : Wk} {w : World} (hs : k.wf) : Calls Tryd.prog 5 #[eWeak k] w (PutPost (catP (weakL k)) w) := by
  rw [rWeak_if]
  generalize hr : (if badW k = true then Except.error 1 else Except.ok (putWk k) : Except Int (List UInt8)) = r
  have HS := Lib.hid hs
  have heq2 := eq_attrs k.after
  clear hs
  simp only [eWeak, Wk.cells]
  go_enter Tryd.func5, Tryd.ntmps5
  go_upto_region 2 with fail
  have oA := OwnL.trk (OwnL.made' w [Value.bool k.hasBefore, .int .u64 k.size, .int .u32 k.write.sec, .int .u32 k.write.nano, .int .u32 k.turn.sec, .int .u32 k.turn.nano, .bool k.hasAfter, .int .u32 k.after.kind, .int .u32 k.after.mode, .int .u32 k.after.links, .int .u32 k.after.user, .int .u32 k.after.group, .int .u64 k.after.size, .int .u64 k.after.used, .int .u64 k.after.id, .int .u32 k.after.read.sec, .int .u32 k.after.read.nano, .int .u32 k.after.write.sec, .int .u32 k.after.write.nano, .int .u32 k.after.turn.sec, .int .u32 k.after.turn.nano] 30) ((Below.refl _ _).alloc (Nat.le_refl _) (.cells #[.int .u32 0, .int .u32 0] 25))
  have oN := OwnL.made' (w.alloc (.cells [Value.bool k.hasBefore, .int .u64 k.size, .int .u32 k.write.sec, .int .u32 k.write.nano, .int .u32 k.turn.sec, .int .u32 k.turn.nano, .bool k.hasAfter, .int .u32 k.after.kind, .int .u32 k.after.mode, .int .u32 k.after.links, .int .u32 k.after.user, .int .u32 k.after.group, .int .u64 k.after.size, .int .u64 k.after.used, .int .u64 k.after.id, .int .u32 k.after.read.sec, .int .u32 k.after.read.nano, .int .u32 k.after.write.sec, .int .u32 k.after.write.nano, .int .u32 k.after.turn.sec, .int .u32 k.after.turn.nano].toArray 30)) [.int .u32 0, .int .u32 0] 25
  have hB : Below w.heap.size w ((w.alloc (.cells [Value.bool k.hasBefore, .int .u64 k.size, .int .u32 k.write.sec, .int .u32 k.write.nano, .int .u32 k.turn.sec, .int .u32 k.turn.nano, .bool k.hasAfter, .int .u32 k.after.kind, .int .u32 k.after.mode, .int .u32 k.after.links, .int .u32 k.after.user, .int .u32 k.after.group, .int .u64 k.after.size, .int .u64 k.after.used, .int .u64 k.after.id, .int .u32 k.after.read.sec, .int .u32 k.after.read.nano, .int .u32 k.after.write.sec, .int .u32 k.after.write.nano, .int .u32 k.after.turn.sec, .int .u32 k.after.turn.nano].toArray 30)).alloc (.cells #[.int .u32 0, .int .u32 0] 25)) := bl_alloc (bl_alloc (Below.refl _ _) _) _
  have hz : ((w.alloc (.cells [Value.bool k.hasBefore, .int .u64 k.size, .int .u32 k.write.sec, .int .u32 k.write.nano, .int .u32 k.turn.sec, .int .u32 k.turn.nano, .bool k.hasAfter, .int .u32 k.after.kind, .int .u32 k.after.mode, .int .u32 k.after.links, .int .u32 k.after.user, .int .u32 k.after.group, .int .u64 k.after.size, .int .u64 k.after.used, .int .u64 k.after.id, .int .u32 k.after.read.sec, .int .u32 k.after.read.nano, .int .u32 k.after.write.sec, .int .u32 k.after.write.nano, .int .u32 k.after.turn.sec, .int .u32 k.after.turn.nano].toArray 30)).alloc (.cells #[.int .u32 0, .int .u32 0] 25)).heap.size = w.heap.size + 2 := by simp
  have hT : (w.alloc (.cells [Value.bool k.hasBefore, .int .u64 k.size, .int .u32 k.write.sec, .int .u32 k.write.nano, .int .u32 k.turn.sec, .int .u32 k.turn.nano, .bool k.hasAfter, .int .u32 k.after.kind, .int .u32 k.after.mode, .int .u32 k.after.links, .int .u32 k.after.user, .int .u32 k.after.group, .int .u64 k.after.size, .int .u64 k.after.used, .int .u64 k.after.id, .int .u32 k.after.read.sec, .int .u32 k.after.read.nano, .int .u32 k.after.write.sec, .int .u32 k.after.write.nano, .int .u32 k.after.turn.sec, .int .u32 k.after.turn.nano].toArray 30)).heap.size = w.heap.size + 1 := by simp
  rw [hT] at oN
  simp only [List.toArray] at oA oN hB hz
  clear hT
  generalize (w.alloc _).alloc _ = W1 at oA oN hB hz ⊢
  generalize Value.agg #[Value.bool k.hasBefore, .int .u64 k.size, .int .u32 k.write.sec, .int .u32 k.write.nano, .int .u32 k.turn.sec, .int .u32 k.turn.nano, .bool k.hasAfter, .int .u32 k.after.kind, .int .u32 k.after.mode, .int .u32 k.after.links, .int .u32 k.after.user, .int .u32 k.after.group, .int .u64 k.after.size, .int .u64 k.after.used, .int .u64 k.after.id, .int .u32 k.after.read.sec, .int .u32 k.after.read.nano, .int .u32 k.after.write.sec, .int .u32 k.after.write.nano, .int .u32 k.after.turn.sec, .int .u32 k.after.turn.nano] = V0
  have hA := oA.2.1
  have hN := oN.2.1
  try dsimp only [List.append_eq, List.cons_append, List.nil_append]
  go_cut [0, 59] from 7 (fun s0 s59 wx => s59 = .bool (badW k) ∧ OwnL wx w.heap.size [Value.bool k.hasBefore, .int .u64 k.size, .int .u32 k.write.sec, .int .u32 k.write.nano, .int .u32 k.turn.sec, .int .u32 k.turn.nano, .bool k.hasAfter, .int .u32 k.after.kind, .int .u32 k.after.mode, .int .u32 k.after.links, .int .u32 k.after.user, .int .u32 k.after.group, .int .u64 k.after.size, .int .u64 k.after.used, .int .u64 k.after.id, .int .u32 k.after.read.sec, .int .u32 k.after.read.nano, .int .u32 k.after.write.sec, .int .u32 k.after.write.nano, .int .u32 k.after.turn.sec, .int .u32 k.after.turn.nano] ∧ Below w.heap.size w wx ∧ w.heap.size + 2 ≤ wx.heap.size)
  case first =>
    clear HS oN hr
    go_wp2_with (first
      | ((with_reducible refine seg19 7 rfl 21 (!k.hasBefore && !zB k) (fun a b j0 j1 j2 j3 j4 j5 j6 j7 j8 j9 j10 j11 j12 j13 j14 j15 j16 j17 j18 => (((((((((((((((((((((a.put (some 7) j0).put (some 8) j1).put (some 9) j2).put (some 10) j3).put (some 11) j4).put (some 12) j5).put (some 13) j6).put (some 14) j7).put (some 15) j8).put (some 16) j9).put (some 17) j10).put (some 18) j11).put (some 19) j12).put (some 20) j13).put (some 21) j14).put (some 22) j15).put (some 23) j16).put (some 24) j17).put (some 25) j18).put (some 26) (.bool b)).put (some 27) (.bool b))) ?_ ?_); (· (intro H; simp only [Act.put, List.setIfInBounds_toArray, List.set_cons_succ, List.set_cons_zero, List.drop_succ_cons, List.drop_zero] at H; (have HH := Lib.hid H); clear H; (rcases Bool.eq_false_or_eq_true k.hasBefore with h | h); (· (go_wp2_with (first | ((with_reducible refine stopAt 28 rfl ?_); (with_reducible refine HH.out _ _ _ _ _ _ _ _ _ _ _ _ _ _ _ _ _ _ _ _ ?_); first | (simp [h]; done) | (rw [Bool.eq_iff_iff]; simp [h]; done))))); (· ((by_cases hN0 : k.size = 0); (· ((have hv0 : (k.size : Int) = 0 := by omega); (by_cases hN1 : k.write.sec = 0); (· ((have hv1 : (k.write.sec : Int) = 0 := by omega); (by_cases hN2 : k.write.nano = 0); (· ((have hv2 : (k.write.nano : Int) = 0 := by omega); (by_cases hN3 : k.turn.sec = 0); (· ((have hv3 : (k.turn.sec : Int) = 0 := by omega); (by_cases hN4 : k.turn.nano = 0); (· ((have hv4 : (k.turn.nano : Int) = 0 := by omega); (go_wp2_with (first | ((with_reducible refine stopAt 28 rfl ?_); (with_reducible refine HH.out _ _ _ _ _ _ _ _ _ _ _ _ _ _ _ _ _ _ _ _ ?_); first | (simp [h, zB, hN0, hv0, hN1, hv1, hN2, hv2, hN3, hv3, hN4, hv4]; done) | (rw [Bool.eq_iff_iff]; simp [h, zB, hN0, hv0, hN1, hv1, hN2, hv2, hN3, hv3, hN4, hv4]; done)))))); (· ((have hv4 : ¬ ((k.turn.nano : Int) = 0) := by omega); (go_wp2_with (first | ((with_reducible refine stopAt 28 rfl ?_); (with_reducible refine HH.out _ _ _ _ _ _ _ _ _ _ _ _ _ _ _ _ _ _ _ _ ?_); first | (simp [h, zB, hN0, hv0, hN1, hv1, hN2, hv2, hN3, hv3, hN4, hv4]; done) | (rw [Bool.eq_iff_iff]; simp [h, zB, hN0, hv0, hN1, hv1, hN2, hv2, hN3, hv3, hN4, hv4]; done)))))))); (· ((have hv3 : ¬ ((k.turn.sec : Int) = 0) := by omega); (go_wp2_with (first | ((with_reducible refine stopAt 28 rfl ?_); (with_reducible refine HH.out _ _ _ _ _ _ _ _ _ _ _ _ _ _ _ _ _ _ _ _ ?_); first | (simp [h, zB, hN0, hv0, hN1, hv1, hN2, hv2, hN3, hv3]; done) | (rw [Bool.eq_iff_iff]; simp [h, zB, hN0, hv0, hN1, hv1, hN2, hv2, hN3, hv3]; done)))))))); (· ((have hv2 : ¬ ((k.write.nano : Int) = 0) := by omega); (go_wp2_with (first | ((with_reducible refine stopAt 28 rfl ?_); (with_reducible refine HH.out _ _ _ _ _ _ _ _ _ _ _ _ _ _ _ _ _ _ _ _ ?_); first | (simp [h, zB, hN0, hv0, hN1, hv1, hN2, hv2]; done) | (rw [Bool.eq_iff_iff]; simp [h, zB, hN0, hv0, hN1, hv1, hN2, hv2]; done)))))))); (· ((have hv1 : ¬ ((k.write.sec : Int) = 0) := by omega); (go_wp2_with (first | ((with_reducible refine stopAt 28 rfl ?_); (with_reducible refine HH.out _ _ _ _ _ _ _ _ _ _ _ _ _ _ _ _ _ _ _ _ ?_); first | (simp [h, zB, hN0, hv0, hN1, hv1]; done) | (rw [Bool.eq_iff_iff]; simp [h, zB, hN0, hv0, hN1, hv1]; done)))))))); (· ((have hv0 : ¬ ((k.size : Int) = 0) := by omega); (go_wp2_with (first | ((with_reducible refine stopAt 28 rfl ?_); (with_reducible refine HH.out _ _ _ _ _ _ _ _ _ _ _ _ _ _ _ _ _ _ _ _ ?_); first | (simp [h, zB, hN0, hv0]; done) | (rw [Bool.eq_iff_iff]; simp [h, zB, hN0, hv0]; done)))))))))); (intro bA j0 j1 j2 j3 j4 j5 j6 j7 j8 j9 j10 j11 j12 j13 j14 j15 j16 j17 j18 ebA; (have EbA := Lib.hid ebA); clear ebA; simp only [Act.put, List.setIfInBounds_toArray, List.set_cons_succ, List.set_cons_zero, List.drop_succ_cons, List.drop_zero]))
      | ((with_reducible refine seg9 28 rfl 11 (bA || (!k.hasAfter && !(k.after == At.zero))) (fun a b j0 j1 j2 j3 j4 j5 j6 j7 j8 => (((((((((((a.put (some 28) j0).put (some 29) j1).put (some 30) j2).put (some 31) j3).put (some 32) j4).put (some 33) j5).put (some 34) j6).put (some 35) j7).put (some 36) j8).put (some 37) (.bool b)).put (some 38) (.bool b))) ?_ ?_); (· (intro H; simp only [Act.put, List.setIfInBounds_toArray, List.set_cons_succ, List.set_cons_zero, List.drop_succ_cons, List.drop_zero] at H; (have HH := Lib.hid H); clear H; (rcases bA with _ | _); (· ((rcases Bool.eq_false_or_eq_true k.hasAfter with h | h); (· (go_wp2_with (first | ((with_reducible refine stopAt 39 rfl ?_); (with_reducible refine HH.out _ _ _ _ _ _ _ _ _ _ ?_); first | (simp [h]; done) | (rw [Bool.eq_iff_iff]; simp [h]; done))))); (· ((rcases Bool.eq_false_or_eq_true (k.after == At.zero) with hz | hz); (all_goals (rw [hz] at heq2)); (all_goals (go_wp2_with (first | ((with_reducible refine stopAt 39 rfl ?_); (with_reducible refine HH.out _ _ _ _ _ _ _ _ _ _ ?_); first | (simp [h, hz]; done) | (rw [Bool.eq_iff_iff]; simp [h, hz]; done)) | ((with_reducible refine stopAt 33 rfl ?_); (refine wpList_load_sub (by kernel_rfl) 28 _ rfl 7 rfl oA [Value.int .u32 k.after.kind, .int .u32 k.after.mode, .int .u32 k.after.links, .int .u32 k.after.user, .int .u32 k.after.group, .int .u64 k.after.size, .int .u64 k.after.used, .int .u64 k.after.id, .int .u32 k.after.read.sec, .int .u32 k.after.read.nano, .int .u32 k.after.write.sec, .int .u32 k.after.write.nano, .int .u32 k.after.turn.sec, .int .u32 k.after.turn.nano] rfl _ Tryd.underlying28 rfl (by kernel_rfl) ?_))))))))); (· (go_wp2_with (first | ((with_reducible refine stopAt 39 rfl ?_); (with_reducible refine HH.out _ _ _ _ _ _ _ _ _ _ ?_); first | (simp [Bool.true_or]; done) | (rw [Bool.eq_iff_iff]; simp [Bool.true_or]; done))))))); (intro bB j0 j1 j2 j3 j4 j5 j6 j7 j8 ebB; (have EbB := Lib.hid ebB); clear ebB; simp only [Act.put, List.setIfInBounds_toArray, List.set_cons_succ, List.set_cons_zero, List.drop_succ_cons, List.drop_zero]))
      | ((with_reducible refine stopAt 39 rfl ?_); (with_reducible refine Hid.out ?_)))
    refine Lib.hid ?_
    clear heq2
    (have HMay := Lib.hid (RMay k.after)); (simp only [eAttrs, At.cells] at HMay); (rcases bB with _ | _); (· ((rcases Bool.eq_false_or_eq_true k.hasAfter with ha | ha); (· ((rcases Bool.eq_false_or_eq_true k.after.may with hm | hm); (all_goals (rw [hm] at HMay)); (· ((rcases Bool.eq_false_or_eq_true k.write.ok with ho | ho); (· ((rcases Bool.eq_false_or_eq_true k.turn.ok with hq | hq); (· (go_wp2_with (first | ((with_reducible refine stopAt 43 rfl ?_); (have _ := (show k.hasAfter = true from ha)); (refine wpList_load_sub (by kernel_rfl) 28 _ rfl 7 rfl oA [Value.int .u32 k.after.kind, .int .u32 k.after.mode, .int .u32 k.after.links, .int .u32 k.after.user, .int .u32 k.after.group, .int .u64 k.after.size, .int .u64 k.after.used, .int .u64 k.after.id, .int .u32 k.after.read.sec, .int .u32 k.after.read.nano, .int .u32 k.after.write.sec, .int .u32 k.after.write.nano, .int .u32 k.after.turn.sec, .int .u32 k.after.turn.nano] rfl _ Tryd.underlying28 rfl (by kernel_rfl) ?_)) | (go_at_call 13; (with_reducible refine Calls.mono (HMay.out _) ?_); rintro e w1 ⟨rfl, b1⟩; (have oM := oA.trk b1); (have hM := oM.2.1); (have hltM := oM.1); (have zM := b1.size)) | (go_at_call 14; first | ((with_reducible refine Calls.mono (RCheck_t k.write _) ?_); rintro e w1 ⟨rfl, rfl⟩) | ((with_reducible refine Calls.mono (RCheck_t k.turn _) ?_); rintro e w1 ⟨rfl, rfl⟩))); go_meet; (refine ⟨?_, oA.trk (by (with_reducible (repeat' (first | exact Below.refl _ _ | assumption | apply bl_alloc | apply bl_drewN | apply bl_drew | refine bl_set ?_ ?_ _))) <;> (first | done | (simp; done) | (simp; omega) | omega)), bl_then hB (by (with_reducible (repeat' (first | exact Below.refl _ _ | assumption | apply bl_alloc | apply bl_drewN | apply bl_drew | refine bl_set ?_ ?_ _))) <;> (first | done | (simp; done) | (simp; omega) | omega)), ?_⟩); (· (refine congrArg Value.bool ?_; unfold badW; rw [← EbA.out, ← EbB.out]; first | (simp [ha, hm, ho, hq]; done) | (simp [ha, hm, ho]; done) | (simp [ha, hm]; done) | (simp [ha, ho, hq]; done) | (simp [ha, ho]; done) | (simp; done))); (· (first | omega | (simp; omega))))); (· (go_wp2_with (first | ((with_reducible refine stopAt 43 rfl ?_); (have _ := (show k.hasAfter = true from ha)); (refine wpList_load_sub (by kernel_rfl) 28 _ rfl 7 rfl oA [Value.int .u32 k.after.kind, .int .u32 k.after.mode, .int .u32 k.after.links, .int .u32 k.after.user, .int .u32 k.after.group, .int .u64 k.after.size, .int .u64 k.after.used, .int .u64 k.after.id, .int .u32 k.after.read.sec, .int .u32 k.after.read.nano, .int .u32 k.after.write.sec, .int .u32 k.after.write.nano, .int .u32 k.after.turn.sec, .int .u32 k.after.turn.nano] rfl _ Tryd.underlying28 rfl (by kernel_rfl) ?_)) | (go_at_call 13; (with_reducible refine Calls.mono (HMay.out _) ?_); rintro e w1 ⟨rfl, b1⟩; (have oM := oA.trk b1); (have hM := oM.2.1); (have hltM := oM.1); (have zM := b1.size)) | (go_at_call 14; first | ((with_reducible refine Calls.mono (RCheck_t k.write _) ?_); rintro e w1 ⟨rfl, rfl⟩) | ((with_reducible refine Calls.mono (RCheck_t k.turn _) ?_); rintro e w1 ⟨rfl, rfl⟩))); go_meet; (refine ⟨?_, oA.trk (by (with_reducible (repeat' (first | exact Below.refl _ _ | assumption | apply bl_alloc | apply bl_drewN | apply bl_drew | refine bl_set ?_ ?_ _))) <;> (first | done | (simp; done) | (simp; omega) | omega)), bl_then hB (by (with_reducible (repeat' (first | exact Below.refl _ _ | assumption | apply bl_alloc | apply bl_drewN | apply bl_drew | refine bl_set ?_ ?_ _))) <;> (first | done | (simp; done) | (simp; omega) | omega)), ?_⟩); (· (refine congrArg Value.bool ?_; unfold badW; rw [← EbA.out, ← EbB.out]; first | (simp [ha, hm, ho, hq]; done) | (simp [ha, hm, ho]; done) | (simp [ha, hm]; done) | (simp [ha, ho, hq]; done) | (simp [ha, ho]; done) | (simp; done))); (· (first | omega | (simp; omega))))))); (· (go_wp2_with (first | ((with_reducible refine stopAt 43 rfl ?_); (have _ := (show k.hasAfter = true from ha)); (refine wpList_load_sub (by kernel_rfl) 28 _ rfl 7 rfl oA [Value.int .u32 k.after.kind, .int .u32 k.after.mode, .int .u32 k.after.links, .int .u32 k.after.user, .int .u32 k.after.group, .int .u64 k.after.size, .int .u64 k.after.used, .int .u64 k.after.id, .int .u32 k.after.read.sec, .int .u32 k.after.read.nano, .int .u32 k.after.write.sec, .int .u32 k.after.write.nano, .int .u32 k.after.turn.sec, .int .u32 k.after.turn.nano] rfl _ Tryd.underlying28 rfl (by kernel_rfl) ?_)) | (go_at_call 13; (with_reducible refine Calls.mono (HMay.out _) ?_); rintro e w1 ⟨rfl, b1⟩; (have oM := oA.trk b1); (have hM := oM.2.1); (have hltM := oM.1); (have zM := b1.size)) | (go_at_call 14; first | ((with_reducible refine Calls.mono (RCheck_t k.write _) ?_); rintro e w1 ⟨rfl, rfl⟩) | ((with_reducible refine Calls.mono (RCheck_t k.turn _) ?_); rintro e w1 ⟨rfl, rfl⟩))); go_meet; (refine ⟨?_, oA.trk (by (with_reducible (repeat' (first | exact Below.refl _ _ | assumption | apply bl_alloc | apply bl_drewN | apply bl_drew | refine bl_set ?_ ?_ _))) <;> (first | done | (simp; done) | (simp; omega) | omega)), bl_then hB (by (with_reducible (repeat' (first | exact Below.refl _ _ | assumption | apply bl_alloc | apply bl_drewN | apply bl_drew | refine bl_set ?_ ?_ _))) <;> (first | done | (simp; done) | (simp; omega) | omega)), ?_⟩); (· (refine congrArg Value.bool ?_; unfold badW; rw [← EbA.out, ← EbB.out]; first | (simp [ha, hm, ho, hq]; done) | (simp [ha, hm, ho]; done) | (simp [ha, hm]; done) | (simp [ha, ho, hq]; done) | (simp [ha, ho]; done) | (simp; done))); (· (first | omega | (simp; omega))))))); (· (go_wp2_with (first | ((with_reducible refine stopAt 43 rfl ?_); (have _ := (show k.hasAfter = true from ha)); (refine wpList_load_sub (by kernel_rfl) 28 _ rfl 7 rfl oA [Value.int .u32 k.after.kind, .int .u32 k.after.mode, .int .u32 k.after.links, .int .u32 k.after.user, .int .u32 k.after.group, .int .u64 k.after.size, .int .u64 k.after.used, .int .u64 k.after.id, .int .u32 k.after.read.sec, .int .u32 k.after.read.nano, .int .u32 k.after.write.sec, .int .u32 k.after.write.nano, .int .u32 k.after.turn.sec, .int .u32 k.after.turn.nano] rfl _ Tryd.underlying28 rfl (by kernel_rfl) ?_)) | (go_at_call 13; (with_reducible refine Calls.mono (HMay.out _) ?_); rintro e w1 ⟨rfl, b1⟩; (have oM := oA.trk b1); (have hM := oM.2.1); (have hltM := oM.1); (have zM := b1.size)) | (go_at_call 14; first | ((with_reducible refine Calls.mono (RCheck_t k.write _) ?_); rintro e w1 ⟨rfl, rfl⟩) | ((with_reducible refine Calls.mono (RCheck_t k.turn _) ?_); rintro e w1 ⟨rfl, rfl⟩))); go_meet; (refine ⟨?_, oA.trk (by (with_reducible (repeat' (first | exact Below.refl _ _ | assumption | apply bl_alloc | apply bl_drewN | apply bl_drew | refine bl_set ?_ ?_ _))) <;> (first | done | (simp; done) | (simp; omega) | omega)), bl_then hB (by (with_reducible (repeat' (first | exact Below.refl _ _ | assumption | apply bl_alloc | apply bl_drewN | apply bl_drew | refine bl_set ?_ ?_ _))) <;> (first | done | (simp; done) | (simp; omega) | omega)), ?_⟩); (· (refine congrArg Value.bool ?_; unfold badW; rw [← EbA.out, ← EbB.out]; first | (simp [ha, hm, ho, hq]; done) | (simp [ha, hm, ho]; done) | (simp [ha, hm]; done) | (simp [ha, ho, hq]; done) | (simp [ha, ho]; done) | (simp; done))); (· (first | omega | (simp; omega))))))); (· ((rcases Bool.eq_false_or_eq_true k.write.ok with ho | ho); (· ((rcases Bool.eq_false_or_eq_true k.turn.ok with hq | hq); (· (go_wp2_with (first | ((with_reducible refine stopAt 43 rfl ?_); (have _ := (show k.hasAfter = true from ha)); (refine wpList_load_sub (by kernel_rfl) 28 _ rfl 7 rfl oA [Value.int .u32 k.after.kind, .int .u32 k.after.mode, .int .u32 k.after.links, .int .u32 k.after.user, .int .u32 k.after.group, .int .u64 k.after.size, .int .u64 k.after.used, .int .u64 k.after.id, .int .u32 k.after.read.sec, .int .u32 k.after.read.nano, .int .u32 k.after.write.sec, .int .u32 k.after.write.nano, .int .u32 k.after.turn.sec, .int .u32 k.after.turn.nano] rfl _ Tryd.underlying28 rfl (by kernel_rfl) ?_)) | (go_at_call 13; (with_reducible refine Calls.mono (HMay.out _) ?_); rintro e w1 ⟨rfl, b1⟩; (have oM := oA.trk b1); (have hM := oM.2.1); (have hltM := oM.1); (have zM := b1.size)) | (go_at_call 14; first | ((with_reducible refine Calls.mono (RCheck_t k.write _) ?_); rintro e w1 ⟨rfl, rfl⟩) | ((with_reducible refine Calls.mono (RCheck_t k.turn _) ?_); rintro e w1 ⟨rfl, rfl⟩))); go_meet; (refine ⟨?_, oA.trk (by (with_reducible (repeat' (first | exact Below.refl _ _ | assumption | apply bl_alloc | apply bl_drewN | apply bl_drew | refine bl_set ?_ ?_ _))) <;> (first | done | (simp; done) | (simp; omega) | omega)), bl_then hB (by (with_reducible (repeat' (first | exact Below.refl _ _ | assumption | apply bl_alloc | apply bl_drewN | apply bl_drew | refine bl_set ?_ ?_ _))) <;> (first | done | (simp; done) | (simp; omega) | omega)), ?_⟩); (· (refine congrArg Value.bool ?_; unfold badW; rw [← EbA.out, ← EbB.out]; first | (simp [ha, hm, ho, hq]; done) | (simp [ha, hm, ho]; done) | (simp [ha, hm]; done) | (simp [ha, ho, hq]; done) | (simp [ha, ho]; done) | (simp; done))); (· (first | omega | (simp; omega))))); (· (go_wp2_with (first | ((with_reducible refine stopAt 43 rfl ?_); (have _ := (show k.hasAfter = true from ha)); (refine wpList_load_sub (by kernel_rfl) 28 _ rfl 7 rfl oA [Value.int .u32 k.after.kind, .int .u32 k.after.mode, .int .u32 k.after.links, .int .u32 k.after.user, .int .u32 k.after.group, .int .u64 k.after.size, .int .u64 k.after.used, .int .u64 k.after.id, .int .u32 k.after.read.sec, .int .u32 k.after.read.nano, .int .u32 k.after.write.sec, .int .u32 k.after.write.nano, .int .u32 k.after.turn.sec, .int .u32 k.after.turn.nano] rfl _ Tryd.underlying28 rfl (by kernel_rfl) ?_)) | (go_at_call 13; (with_reducible refine Calls.mono (HMay.out _) ?_); rintro e w1 ⟨rfl, b1⟩; (have oM := oA.trk b1); (have hM := oM.2.1); (have hltM := oM.1); (have zM := b1.size)) | (go_at_call 14; first | ((with_reducible refine Calls.mono (RCheck_t k.write _) ?_); rintro e w1 ⟨rfl, rfl⟩) | ((with_reducible refine Calls.mono (RCheck_t k.turn _) ?_); rintro e w1 ⟨rfl, rfl⟩))); go_meet; (refine ⟨?_, oA.trk (by (with_reducible (repeat' (first | exact Below.refl _ _ | assumption | apply bl_alloc | apply bl_drewN | apply bl_drew | refine bl_set ?_ ?_ _))) <;> (first | done | (simp; done) | (simp; omega) | omega)), bl_then hB (by (with_reducible (repeat' (first | exact Below.refl _ _ | assumption | apply bl_alloc | apply bl_drewN | apply bl_drew | refine bl_set ?_ ?_ _))) <;> (first | done | (simp; done) | (simp; omega) | omega)), ?_⟩); (· (refine congrArg Value.bool ?_; unfold badW; rw [← EbA.out, ← EbB.out]; first | (simp [ha, hm, ho, hq]; done) | (simp [ha, hm, ho]; done) | (simp [ha, hm]; done) | (simp [ha, ho, hq]; done) | (simp [ha, ho]; done) | (simp; done))); (· (first | omega | (simp; omega))))))); (· (go_wp2_with (first | ((with_reducible refine stopAt 43 rfl ?_); (have _ := (show k.hasAfter = true from ha)); (refine wpList_load_sub (by kernel_rfl) 28 _ rfl 7 rfl oA [Value.int .u32 k.after.kind, .int .u32 k.after.mode, .int .u32 k.after.links, .int .u32 k.after.user, .int .u32 k.after.group, .int .u64 k.after.size, .int .u64 k.after.used, .int .u64 k.after.id, .int .u32 k.after.read.sec, .int .u32 k.after.read.nano, .int .u32 k.after.write.sec, .int .u32 k.after.write.nano, .int .u32 k.after.turn.sec, .int .u32 k.after.turn.nano] rfl _ Tryd.underlying28 rfl (by kernel_rfl) ?_)) | (go_at_call 13; (with_reducible refine Calls.mono (HMay.out _) ?_); rintro e w1 ⟨rfl, b1⟩; (have oM := oA.trk b1); (have hM := oM.2.1); (have hltM := oM.1); (have zM := b1.size)) | (go_at_call 14; first | ((with_reducible refine Calls.mono (RCheck_t k.write _) ?_); rintro e w1 ⟨rfl, rfl⟩) | ((with_reducible refine Calls.mono (RCheck_t k.turn _) ?_); rintro e w1 ⟨rfl, rfl⟩))); go_meet; (refine ⟨?_, oA.trk (by (with_reducible (repeat' (first | exact Below.refl _ _ | assumption | apply bl_alloc | apply bl_drewN | apply bl_drew | refine bl_set ?_ ?_ _))) <;> (first | done | (simp; done) | (simp; omega) | omega)), bl_then hB (by (with_reducible (repeat' (first | exact Below.refl _ _ | assumption | apply bl_alloc | apply bl_drewN | apply bl_drew | refine bl_set ?_ ?_ _))) <;> (first | done | (simp; done) | (simp; omega) | omega)), ?_⟩); (· (refine congrArg Value.bool ?_; unfold badW; rw [← EbA.out, ← EbB.out]; first | (simp [ha, hm, ho, hq]; done) | (simp [ha, hm, ho]; done) | (simp [ha, hm]; done) | (simp [ha, ho, hq]; done) | (simp [ha, ho]; done) | (simp; done))); (· (first | omega | (simp; omega))))))))); (· (go_wp2_with (first | ((with_reducible refine stopAt 43 rfl ?_); (have _ := (show k.hasAfter = true from ha)); (refine wpList_load_sub (by kernel_rfl) 28 _ rfl 7 rfl oA [Value.int .u32 k.after.kind, .int .u32 k.after.mode, .int .u32 k.after.links, .int .u32 k.after.user, .int .u32 k.after.group, .int .u64 k.after.size, .int .u64 k.after.used, .int .u64 k.after.id, .int .u32 k.after.read.sec, .int .u32 k.after.read.nano, .int .u32 k.after.write.sec, .int .u32 k.after.write.nano, .int .u32 k.after.turn.sec, .int .u32 k.after.turn.nano] rfl _ Tryd.underlying28 rfl (by kernel_rfl) ?_)) | (go_at_call 13; (with_reducible refine Calls.mono (HMay.out _) ?_); rintro e w1 ⟨rfl, b1⟩; (have oM := oA.trk b1); (have hM := oM.2.1); (have hltM := oM.1); (have zM := b1.size)) | (go_at_call 14; first | ((with_reducible refine Calls.mono (RCheck_t k.write _) ?_); rintro e w1 ⟨rfl, rfl⟩) | ((with_reducible refine Calls.mono (RCheck_t k.turn _) ?_); rintro e w1 ⟨rfl, rfl⟩))); go_meet; (refine ⟨?_, oA.trk (by (with_reducible (repeat' (first | exact Below.refl _ _ | assumption | apply bl_alloc | apply bl_drewN | apply bl_drew | refine bl_set ?_ ?_ _))) <;> (first | done | (simp; done) | (simp; omega) | omega)), bl_then hB (by (with_reducible (repeat' (first | exact Below.refl _ _ | assumption | apply bl_alloc | apply bl_drewN | apply bl_drew | refine bl_set ?_ ?_ _))) <;> (first | done | (simp; done) | (simp; omega) | omega)), ?_⟩); (· (refine congrArg Value.bool ?_; unfold badW; rw [← EbA.out, ← EbB.out]; first | (simp [ha, hm, ho, hq]; done) | (simp [ha, hm, ho]; done) | (simp [ha, hm]; done) | (simp [ha, ho, hq]; done) | (simp [ha, ho]; done) | (simp; done))); (· (first | omega | (simp; omega)))))
  case rest =>
    clear oA hA hN hB hz heq2
    obtain ⟨rfl, oX, HB0, hz0⟩ := hcut
    rcases Bool.eq_false_or_eq_true (badW k) with hb | hb
    · rw [hb]
      go_wp2_with fail
      rw [hb, if_pos rfl] at hr
      subst hr
      refine bodyPost_ret (v := .tuple #[_, _]) (by simp [results, Tryd.results5, go_sem]) rfl ⟨HB0, .inr ⟨_, rfl, rfl⟩⟩
    · rw [hb]
      rw [hb, if_neg (by decide)] at hr
      have HRR := Lib.hid hr
      clear hr
      have hlt : w.heap.size < wc.heap.size := by omega
      have HP1 := Lib.hid (fun wq => RPutLong_any k.size HS.out.1 wq)
      have HP2 := Lib.hid (fun wq => RTPut_w k.write HS.out.2.1 wq)
      have HP3 := Lib.hid (fun wq => RTPut_w k.turn HS.out.2.2.1 wq)
      have HP4 := Lib.hid (fun wq => RBytes k.after HS.out.2.2.2 wq)
      unfold eAttrs At.cells at HP4
      have l8 : (put8 k.size).length = 8 := put8_length _
      have lw : (putTm k.write).length = 8 := putTm_length _
      have lt : (putTm k.turn).length = 8 := putTm_length _
      have la : (putAt k.after).length = 84 := putAt_length _
      have lo : ∀ xs : List UInt8, (optB k.hasBefore xs).length ≤ 4 + xs.length := fun xs => by unfold optB; rw [List.length_append, putYes_length]; split <;> simp
      have HE : putWk k = ([] ++ optB k.hasBefore (put8 k.size ++ putTm k.write ++ putTm k.turn)) ++ optB k.hasAfter (putAt k.after) := by unfold putWk; rw [List.nil_append]
      have HEE := Lib.hid HE
      clear HE
      have LO := Lib.hid (lo (put8 k.size ++ putTm k.write ++ putTm k.turn))
      clear lo
      generalize put8 k.size = P1 at *
      generalize putTm k.write = P2 at *
      generalize putTm k.turn = P3 at *
      generalize putAt k.after = P4 at *
      go_upto_region 4 with fail
      try simp (config := {failIfUnchanged := false}) only [List.append_eq, List.cons_append, List.nil_append]
      go_region_held3 (fun wy => wy.cell? ⟨w.heap.size, 1, none⟩ = some (.int .u64 k.size) ∧ wy.cell? ⟨w.heap.size, 2, none⟩ = some (.int .u32 k.write.sec) ∧ wy.cell? ⟨w.heap.size, 3, none⟩ = some (.int .u32 k.write.nano)) (first | (refine ⟨(OwnL.trk (OwnL.belowm oZ b5 hltb) ?_).2.1 1, (OwnL.trk (OwnL.belowm oZ b5 hltb) ?_).2.1 2, (OwnL.trk (OwnL.belowm oZ b5 hltb) ?_).2.1 3⟩ <;> ((with_reducible (repeat' (first | exact Below.refl _ _ | assumption | apply bl_alloc | apply bl_drewN | apply bl_drew | refine bl_set ?_ ?_ _))) <;> (first | done | (simp; done) | (simp; omega) | omega))) | (refine ⟨(OwnL.trk oZ ?_).2.1 1, (OwnL.trk oZ ?_).2.1 2, (OwnL.trk oZ ?_).2.1 3⟩ <;> ((with_reducible (repeat' (first | exact Below.refl _ _ | assumption | apply bl_alloc | apply bl_drewN | apply bl_drew | refine bl_set ?_ ?_ _))) <;> (first | done | (simp; done) | (simp; omega) | omega))) | (refine ⟨(OwnL.trk oY ?_).2.1 1, (OwnL.trk oY ?_).2.1 2, (OwnL.trk oY ?_).2.1 3⟩ <;> ((with_reducible (repeat' (first | exact Below.refl _ _ | assumption | apply bl_alloc | apply bl_drewN | apply bl_drew | refine bl_set ?_ ?_ _))) <;> (first | done | (simp; done) | (simp; omega) | omega))) | (refine ⟨(OwnL.trk oX ?_).2.1 1, (OwnL.trk oX ?_).2.1 2, (OwnL.trk oX ?_).2.1 3⟩ <;> ((with_reducible (repeat' (first | exact Below.refl _ _ | assumption | apply bl_alloc | apply bl_drewN | apply bl_drew | refine bl_set ?_ ?_ _))) <;> (first | done | (simp; done) | (simp; omega) | omega)))) (first
        | (go_at_call 15; refine Calls.mono (HP1.out _) ?_; rintro e wa ⟨va, rfl, oa, ba⟩; (have B1 : Below wc.heap.size wc wa := bl_then (by (with_reducible (repeat' (first | exact Below.refl _ _ | assumption | apply bl_alloc | apply bl_drewN | apply bl_drew | refine bl_set ?_ ?_ _))) <;> (first | done | (simp; done) | (simp; omega) | omega)) ba); (have oY := oX.trk B1); (have z1 := B1.size))
        | (go_at_call 16; refine Calls.mono (HP2.out _) ?_; rintro e wb ⟨vb, rfl, ob, bb⟩; (have B2 : Below wc.heap.size wc wb := bl_then (by (with_reducible (repeat' (first | exact Below.refl _ _ | assumption | apply bl_alloc | apply bl_drewN | apply bl_drew | refine bl_set ?_ ?_ _))) <;> (first | done | (simp; done) | (simp; omega) | omega)) bb); (have oZ := oX.trk B2); (have z2 := B2.size); (have oc := (OwnB.below oa (bl_then (by (with_reducible (repeat' (first | exact Below.refl _ _ | assumption | apply bl_alloc | apply bl_drewN | apply bl_drew | refine bl_set ?_ ?_ _))) <;> (first | done | (simp; done) | (simp; omega) | omega)) bb)).mono (base' := wc.heap.size) (by first | exact Nat.le_refl _ | (simp; done) | (simp; omega))); (have hltb := hlt))
        | (refine step_append_bytes rfl _ _ rfl rfl rfl oc ob (by omega) (by omega) z2 ?_; intro v5 w5 o5 b5))
      have HK5 := Lib.hid o5
      have oX5 := OwnL.belowm oZ b5 hlt
      have HB5 : Below w.heap.size w w5 := (HB0.trans (B2.mono (by omega))).trans (b5.mono (by omega))
      have hz5 : wc.heap.size ≤ w5.heap.size := by have := b5.size; omega
      clear o5 b5 oZ oY oc oa ob ba bb B1 B2 z1 z2
      have h5 := oX5.2.1
      have hlt5 := oX5.1
      have ll : (P1 ++ P2).length = 16 := by rw [List.length_append]; omega
      have LL := Lib.hid ll
      clear ll
      generalize P1 ++ P2 = PP at HK5 LL LO HEE
      go_upto_region 6 with (first
        | (go_at_call 16; refine Calls.mono (HP3.out _) ?_; rintro e wd ⟨vd, rfl, od, bd⟩; (have oe := HK5.out.below bd); (have zd := bd.size))
        | (at_builtin; refine wp_append_bytes rfl _ _ rfl rfl rfl oe od (by omega) (by have := LL.out; omega) (by omega) ?_; intro v6 w6 o6 b6))
      have oX6 := OwnL.belowm (oX5.trk bd) b6 hlt
      have HB6 : Below w.heap.size w w6 := (HB5.trans (bd.mono (by omega))).trans (b6.mono (by omega))
      have hz6 : wc.heap.size ≤ w6.heap.size := by have := b6.size; omega
      have lq : (PP ++ P3).length = 24 := by have := LL.out; rw [List.length_append]; omega
      have HK6 := Lib.hid o6
      generalize PP ++ P3 = QQ at HK6 LO HEE lq
      clear o6 b6 bd oe od oX5 h5 hlt5 HK5 zd LL
      have h6 := oX6.2.1
      have hlt6 := oX6.1
      go_upto_region 7 with (go_at_call 17; refine Calls.mono (RefOption k.hasBefore (OwnB.nil _ wc.heap.size) HK6.out hz6 (fun p q _ h => by simp [Value.ownBlock] at h) (by omega) (by omega) (by simp)) ?_; rintro e w7 ⟨v7, rfl, o7, b7⟩)
      have oX7 := OwnL.belowm oX6 b7 hlt
      have HB7 : Below w.heap.size w w7 := HB6.trans (b7.mono (by omega))
      have hz7 : wc.heap.size ≤ w7.heap.size := by have := b7.size; omega
      have HK7 := Lib.hid o7
      have lr : ([] ++ optB k.hasBefore QQ).length ≤ 28 := by have := LO.out; rw [List.nil_append]; omega
      generalize [] ++ optB k.hasBefore QQ = RR at HK7 HEE lr
      clear o7 b7 oX6 h6 hlt6 HK6 LO
      try simp (config := {failIfUnchanged := false}) only [List.append_eq, List.cons_append, List.nil_append]
      go_region_held3 (fun wy => ∀ o, wy.cell? ⟨w.heap.size, o, none⟩ = [Value.bool k.hasBefore, .int .u64 k.size, .int .u32 k.write.sec, .int .u32 k.write.nano, .int .u32 k.turn.sec, .int .u32 k.turn.nano, .bool k.hasAfter, .int .u32 k.after.kind, .int .u32 k.after.mode, .int .u32 k.after.links, .int .u32 k.after.user, .int .u32 k.after.group, .int .u64 k.after.size, .int .u64 k.after.used, .int .u64 k.after.id, .int .u32 k.after.read.sec, .int .u32 k.after.read.nano, .int .u32 k.after.write.sec, .int .u32 k.after.write.nano, .int .u32 k.after.turn.sec, .int .u32 k.after.turn.nano][o]?) (first | (refine (OwnL.trk (OwnL.belowm oY b9 hlt) ?_).2.1 <;> ((with_reducible (repeat' (first | exact Below.refl _ _ | assumption | apply bl_alloc | apply bl_drewN | apply bl_drew | refine bl_set ?_ ?_ _))) <;> (first | done | (simp; done) | (simp; omega) | omega))) | (refine (OwnL.trk oY ?_).2.1 <;> ((with_reducible (repeat' (first | exact Below.refl _ _ | assumption | apply bl_alloc | apply bl_drewN | apply bl_drew | refine bl_set ?_ ?_ _))) <;> (first | done | (simp; done) | (simp; omega) | omega))) | (refine (OwnL.trk oX7 ?_).2.1 <;> ((with_reducible (repeat' (first | exact Below.refl _ _ | assumption | apply bl_alloc | apply bl_drewN | apply bl_drew | refine bl_set ?_ ?_ _))) <;> (first | done | (simp; done) | (simp; omega) | omega)))) (first
        | (go_at_call 18; refine Calls.mono (HP4.out _) ?_; rintro e w8 ⟨v8, rfl, o8, b8⟩; (have B8 : Below w7.heap.size w7 w8 := bl_then (by (with_reducible (repeat' (first | exact Below.refl _ _ | assumption | apply bl_alloc | apply bl_drewN | apply bl_drew | refine bl_set ?_ ?_ _))) <;> (first | done | (simp; done) | (simp; omega) | omega)) b8); (have oY := oX7.trk B8); (have p8 := HK7.out.below B8); (have z8 := B8.size))
        | (go_at_call 17; refine Calls.mono (RefOption k.hasAfter p8 o8 (by omega) (fun p q h1 h2 => (OwnB.apart HK7.out o8 (by first | exact Nat.le_refl _ | (simp; done) | (simp; omega)) h2 h1).symm) (by omega) (by omega) (by omega)) ?_; rintro e w9 ⟨v9, rfl, o9, b9⟩))
      go_wp2_with fail
      have HR := HRR.out
      subst HR
      refine bodyPost_ret (v := .tuple #[_, _]) (by simp [results, Tryd.results5, go_sem]; try rfl) rfl ⟨(HB7.trans (B8.mono (by omega))).trans (b9.mono (by omega)), .inl ⟨putWk k, _, rfl, rfl, ?_⟩⟩
      rw [HEE.out]
      exact o9.mono (by omega)
end Go.Proofs.YtkaapdnjlmceoabDoor
namespace Go.Proofs.YtkaapdnjlmceoabDoor
open Go.RowKit
set_option maxRecDepth 100000 in
set_option maxHeartbeats 4000000 in
theorem LAttrsPutsWeak {a : Wk} {w : World} (ha : a.wf) : Calls Tryd.prog 3 #[eWeak a] w fun e w' => e = .returned (.bool true) ∧ Below w.heap.size w w' := by
  have HP := Lib.hid (fun w => PutWeak_go (w := w) ha)
  have HR := Lib.hid (fun w => RefPutWeak (w := w) ha)
  have hl : (okB (catP (weakL a))).length ≤ 1099511627000 := by
    rw [rWeak_if]
    split
    · rw [okB, List.length_nil]; omega
    · rw [okB]; exact Nat.le_trans (putWk_len a) (by decide)
  clear ha
  generalize catP (weakL a) = r at HP HR hl
  simp only [eWeak, Wk.cells] at HP HR ⊢
  go_enter Tryd.func3, Tryd.ntmps3
  have oA := OwnL.made' w [.bool a.hasBefore, .int .u64 a.size, .int .u32 a.write.sec, .int .u32 a.write.nano, .int .u32 a.turn.sec, .int .u32 a.turn.nano, .bool a.hasAfter, .int .u32 a.after.kind, .int .u32 a.after.mode, .int .u32 a.after.links, .int .u32 a.after.user, .int .u32 a.after.group, .int .u64 a.after.size, .int .u64 a.after.used, .int .u64 a.after.id, .int .u32 a.after.read.sec, .int .u32 a.after.read.nano, .int .u32 a.after.write.sec, .int .u32 a.after.write.nano, .int .u32 a.after.turn.sec, .int .u32 a.after.turn.nano] 30
  have hB : Below w.heap.size w (w.alloc (.cells #[.bool a.hasBefore, .int .u64 a.size, .int .u32 a.write.sec, .int .u32 a.write.nano, .int .u32 a.turn.sec, .int .u32 a.turn.nano, .bool a.hasAfter, .int .u32 a.after.kind, .int .u32 a.after.mode, .int .u32 a.after.links, .int .u32 a.after.user, .int .u32 a.after.group, .int .u64 a.after.size, .int .u64 a.after.used, .int .u64 a.after.id, .int .u32 a.after.read.sec, .int .u32 a.after.read.nano, .int .u32 a.after.write.sec, .int .u32 a.after.write.nano, .int .u32 a.after.turn.sec, .int .u32 a.after.turn.nano] 30)) := by (with_reducible (repeat' (first | exact Below.refl _ _ | assumption | apply bl_alloc | apply bl_drewN | apply bl_drew | refine bl_set ?_ ?_ _))) <;> (first | done | (simp; done) | (simp; omega) | omega)
  go_wp2_with (first
    | (refine wpList_load_own (by kernel_rfl) 30 _ rfl rfl oA _ Tryd.underlying30 rfl (by kernel_rfl) ?_)
    | (go_at_call 4; refine Calls.mono (HP.out _) ?_; intro e w1 hp; obtain ⟨v1, rfl, o1, b1⟩ := hp.flat; (have oA := oA.trk b1); (have o2 := o1.mono hB.size); (have hB : Below w.heap.size w w1 := bl_then hB b1);
        first | ((have hne := fun p q => OwnB.apart (p := p) (q := q) oX o1 (Nat.le_refl _)); (have oX := oX.below b1); (have oY := o2); clear o1 o2 hp b1) | ((have oX := o2); clear o1 o2 hp b1))
    | (go_at_call 5; refine Calls.mono (HR.out _) ?_; intro e w1 hp; obtain ⟨v1, rfl, o1, b1⟩ := hp.flat; (have oZ := o1.mono hB.size); (have oX := oX.below b1); (have oY := oY.below b1); (have hB : Below w.heap.size w w1 := bl_then hB b1); clear o1 hp b1)
    | (go_at_call 6; refine Calls.mono (two_any (m := w.heap.size) oX oY oZ hl hB.size hne) ?_; rintro e w5 ⟨rfl, b5⟩))
  go_ret
  exact ⟨by simp, hB.trans b5⟩
end Go.Proofs.YtkaapdnjlmceoabDoor
namespace Go.Proofs.YtkaapdnjlmceoabDoor
open Go.ChangeShapes Go.WideShapes Go.ChangeAt Go.RowKit

set_option maxRecDepth 100000 in
theorem attrsPutsWeak_lifted (os : Os) (started : os.Started) (H : Type) (enc : TypeId × Value → H) :
    ReturnsInHanded {} Tryd.checked os 3 .any (fun w args => (Rows.attrsPutsWeakSpec.pre enc Tryd.prog Tryd.f3 Rows.attrsPutsWeakRow.domain false w args ∧ laidMetH Tryd.prog Rows.attrsPutsWeakRow.laid w) ∧ sizedMet enc Tryd.prog Tryd.f3 (OpenSpec.ofChange Rows.attrsPutsWeakSpec) false w args)
      (Rows.attrsPutsWeakSpec.post enc Tryd.prog Tryd.f3 false true false false) := by
  refine returnsInHanded_of_change_and (C := Tryd.checked) (X := fun w _ => laidMetH Tryd.prog Rows.attrsPutsWeakRow.laid w) (fun _ _ _ hh h => h.of_heap hh) own started (by kernel_rfl) Tryd.func3
    (ChangeSpec.witness_shaped (enc := enc) (C := Tryd.checked) (os := os) (X := fun w _ => laidMetH Tryd.prog Rows.attrsPutsWeakRow.laid w) false (World.laidAll Tryd.prog os Rows.attrsPutsWeakRow.laid) #[.agg #[.bool false, .int .u64 0, .int .u32 0, .int .u32 0, .int .u32 0, .int .u32 0, .bool false, .int .u32 0, .int .u32 0, .int .u32 0, .int .u32 0, .int .u32 0, .int .u64 0, .int .u64 0, .int .u64 0, .int .u32 0, .int .u32 0, .int .u32 0, .int .u32 0, .int .u32 0, .int .u32 0]] 8 (World.laidAll_os _ _ _)
      (World.shaped_of_ZipB (by kernel_rfl) (by kernel_rfl)) (by kernel_rfl) (by kernel_rfl) (by kernel_rfl)
      (by rw [MakeChecks.laidMetH_plain _ _ _ (by kernel_rfl)]; exact laidMet_laidAll _ (by kernel_rfl) (by kernel_rfl))) ?_
  intro W base args ds gs before hval0 hW hcnd _ _ _
  have hval : ∀ (j : Nat) t v, Tryd.f3.params[j]? = some t → args[j]? = some v → Value.okWide Tryd.prog W .any base t v := hval0
  have hW' := hW
  obtain ⟨p, q, hA0, hV, rfl, hfz, hnd⟩ := hW
  have hA : DataW.TrodAll enc Tryd.prog W 0 (fun _ => true) true Tryd.f3.params.toList args.toList ds p := hA0
  rw [Tryd.params3] at hA hval
  obtain ⟨v0, vs0, d0, ds0, p0, q0, hargs, rfl, rfl, h0, r0⟩ := trodAll_cons hA
  obtain ⟨rfl, rfl, rfl⟩ := trodAll_nil r0
  obtain rfl : args = #[v0] := by cases args; simp_all
  obtain ⟨rfl, rfl⟩ := trodVars_none hV
  have k0 := h0
  have lt0 : ∀ x ∈ p0, x.block < W.heap.size := by obtain ⟨m, hm⟩ := k0; exact DataW.trod_lt m _ _ _ hm
  obtain ⟨a0, w0, rfl⟩ := open_weak (hval 0 30 v0 rfl rfl) h0
  clear hA0 hval0
  refine (LAttrsPutsWeak w0).mono fun e W' ⟨he, bel⟩ => ?_
  subst he
  exact ⟨_, rfl, _, _, _, [], _, [], hW', trodAll_mk1 (shut_bool Tryd.underlying4 _), (trodAll_cons_mk (Below.trod laidOut (by kernel_rfl) (of_decide_eq_true (by kernel_rfl)) k0 bel lt0) trodAll_mk0), rfl, bel.frame _, fun h => by cases h⟩

theorem attrsPutsWeak_over : Rows.attrsPutsWeakRow.holds Tryd.pinned (OpenSpec.ofChange Rows.attrsPutsWeakSpec) :=
  OpenClaim.holds_of_wide 3 Tryd.f3 rfl rfl rfl rfl rfl rfl rfl ⟨rfl, rfl, rfl, rfl, rfl⟩ rfl rfl rfl rfl rfl (by kernel_rfl) Tryd.func3 (by kernel_rfl)
    (of_decide_eq_true (by kernel_rfl)) (by unfold Func.isWrapper; first | (rw [if_pos (by decide +kernel)]; kernel_rfl) | (rw [if_neg (by decide +kernel)]; exact ⟨rfl, rfl⟩))
    (fun os started H enc _ => attrsPutsWeak_lifted os started H enc)

theorem attrsPutsWeak_proved : Rows.AttrsPutsWeakSaid := attrsPutsWeak_over
#print axioms attrsPutsWeak_proved
theorem attrsPutsWeak_card : Rows.AttrsPutsWeakCardSaid :=
  Claim7.holds_tied_plain_at .later [] [.data, .data, .data] true (true, "8474aaa4245f0e89fa1043e1491085e1a83a3259b93010a1717f877839aff019") true attrsPutsWeak_proved (fun _ h => by cases h) (by kernel_rfl) (fun _ h => by cases h) attrsPutsWeak_row_tie rfl ⟨rfl, rfl⟩ (by kernel_rfl) rfl
    (fun f fn hf hfn => by
      obtain rfl : f = 3 := Option.some.inj ((show Tryd.prog.funcNamed "wharfinger/wharfingerlaw10.AttrsPutsWeak" = some 3 by kernel_rfl).symm.trans hf) |>.symm
      obtain rfl : fn = Tryd.f3 := (Option.some.inj (Tryd.func3.symm.trans hfn)).symm
      exact ⟨by kernel_rfl, fun j t ht => by
        rw [Tryd.params3] at ht
        have hm : t ∈ [30] := by simpa using Array.mem_of_getElem? ht
        have hall : ([30].all fun u => !Tryd.prog.wantsStandIn u) = true := by kernel_rfl
        exact (show Tryd.prog.wantsStandIn t = false by simpa using List.all_eq_true.1 hall t hm)⟩)
    (by kernel_rfl)
#print axioms attrsPutsWeak_card
end Go.Proofs.YtkaapdnjlmceoabDoor

/- What is to be set is put as the document's bytes, or refused; AttrsPutsSet answers true. No condition. Printed by gen_rows.py. -/
import Derived.Test.YtkaapdnjlmceoaaDoorQPuts
import Derived.Test.YtkaapdnjlmceoaaDoorDPutSetB
import Derived.Test.YtkaapdnjlmceoaaDoorRow
import Derived.Test.YtkaapdnjlmceoaaDoorFlatAll
import Derived.Test.YtkaapdnjlmceoaaDoorRows
import Derived.LaidMore
import Derived.Lay
import Derived.MakeChecks
import Derived.Test.YtkaapdnjlmceoaaDoorCards
import Derived.Test.YtkaapdnjlmceoaaDoorTie
set_option linter.unusedVariables false
set_option linter.unusedSimpArgs false
namespace Go.Proofs.YtkaapdnjlmceoaaDoor
open Go.RowKit
def optB (has : Bool) (b : List UInt8) : List UInt8 := putYes has ++ (if has = true then b else [])
def howB (h : Nat) (t : Tm) : List UInt8 := put4 h ++ (if h = 2 then putTm t else [])
def putSt (s : St) : List UInt8 := optB s.hasMode (put4 s.mode) ++ (optB s.hasUser (put4 s.user) ++ (optB s.hasGroup (put4 s.group) ++ (optB s.hasSize (put8 s.size) ++ (howB s.readHow s.read ++ howB s.writeHow s.write))))
def badS (s : St) : Bool := decide (4095 < s.mode) || ((!s.hasMode && !(s.mode == 0)) || ((!s.hasUser && !(s.user == 0)) || ((!s.hasGroup && !(s.group == 0)) || ((!s.hasSize && !(s.size == 0)) || (decide (2 < s.readHow) || (decide (2 < s.writeHow) || ((!(s.readHow == 2) && !(s.read == ⟨0, 0⟩)) || ((!(s.writeHow == 2) && !(s.write == ⟨0, 0⟩)) || (!s.read.ok || !s.write.ok)))))))))
theorem rOpt_if (has : Bool) (n : Nat) (b : List UInt8) : rOpt has ((n : Int) == 0) [.ok b] = if (!has && !(n == 0)) = true then .error 1 else .ok (optB has b) := by
  have e : ((n : Int) == 0) = (n == 0) := by
    rcases Bool.eq_false_or_eq_true (n == 0) with h | h
    · rw [h]; simp at h; simp [h]
    · rw [h]; simp at h; simp [h]
  rw [e]
  generalize (n == 0) = z
  cases has <;> cases z <;> simp [rOpt, catP, optB]
theorem rHow_if (h : Nat) (t : Tm) : rHow h t = if (decide (2 < h) || ((!(h == 2) && !(t == ⟨0, 0⟩)) || !t.ok)) = true then .error 1 else .ok (howB h t) := by
  by_cases h2 : h = 2
  · subst h2
    rcases Bool.eq_false_or_eq_true t.ok with ho | ho <;> simp [rHow, rTime, catP, howB, ho]
  · by_cases hz : t = ⟨0, 0⟩
    · subst hz
      by_cases hl : 2 < h
      · simp [rHow, hl, show ¬ h ≤ 2 by omega]
      · simp [rHow, hl, show h ≤ 2 by omega, h2, howB, Tm.ok]
    · have : (t == ⟨0, 0⟩) = false := by simpa using hz
      simp [rHow, h2, this, hz]
theorem rSet_if (s : St) : rSet s = if badS s = true then .error 1 else .ok (putSt s) := by
  unfold rSet setL
  simp only [rOpt_if, rHow_if]
  have e : badS s = (decide (4095 < s.mode) || ((!s.hasMode && !(s.mode == 0)) || ((!s.hasUser && !(s.user == 0)) || ((!s.hasGroup && !(s.group == 0)) || ((!s.hasSize && !(s.size == 0)) || ((decide (2 < s.readHow) || ((!(s.readHow == 2) && !(s.read == ⟨0, 0⟩)) || !s.read.ok)) || (decide (2 < s.writeHow) || ((!(s.writeHow == 2) && !(s.write == ⟨0, 0⟩)) || !s.write.ok)))))))) := by
    unfold badS
    ac_rfl
  rw [e]; clear e
  unfold putSt
  generalize (!s.hasMode && !(s.mode == 0)) = c1
  generalize (!s.hasUser && !(s.user == 0)) = c2
  generalize (!s.hasGroup && !(s.group == 0)) = c3
  generalize (!s.hasSize && !(s.size == 0)) = c4
  generalize (decide (2 < s.readHow) || ((!(s.readHow == 2) && !(s.read == ⟨0, 0⟩)) || !s.read.ok)) = c5
  generalize (decide (2 < s.writeHow) || ((!(s.writeHow == 2) && !(s.write == ⟨0, 0⟩)) || !s.write.ok)) = c6
  by_cases hm : s.mode ≤ 4095
  · rw [if_pos hm]
    have hd : decide (4095 < s.mode) = false := by simp; omega
    rw [hd]
    cases c1
    · cases c2
      · cases c3
        · cases c4
          · cases c5
            · cases c6 <;> simp [catP]
            · simp [catP]
          · simp [catP]
        · simp [catP]
      · simp [catP]
    · simp [catP]
  · rw [if_neg hm]
    have hd : decide (4095 < s.mode) = true := by simp; omega
    rw [hd]; simp
theorem oper_append_bytes2 {w : World} {o : Oper} {a : Act} {K : Act → World → Prop} {Q : Exit → Act → World → Prop} {base base2 : Nat} {v v2 : Value} {xs ys : List UInt8} (s x : Operand)
    (ho : o.op = .call { callee := .builtin .append, args := #[s, x], argTypes := #[29, 29] })
    (hs : a.eval s = v) (hx : a.eval x = v2) (h1 : OwnB w base v xs) (h2 : OwnB w base2 v2 ys) (hne : 0 < ys.length) (hlen : xs.length + ys.length ≤ 1099511627776) (hbase : base ≤ w.heap.size)
    (h : ∀ v' w', OwnB w' base v' (xs ++ ys) → w.grownBy w' v.ownBlock → Below base w w' → K (a.put o.dst v') w') : Oper.wp Tryd.prog o a w K Q := by
  obtain ⟨g, cap, rfl, hg, hgs, hc1, hc2, hcell⟩ := h2.slice hne
  have hi := info_u8
  obtain ⟨i0, hi, hz⟩ : ∃ i0, Tryd.prog.info? 5 = some i0 ∧ (i0.zero, i0.size, i0.bytes) = (some (.int .u8 0), 1, 1) := by
    cases he : Tryd.prog.info? 5 with
    | none => rw [he] at hi; cases hi
    | some i0 => rw [he] at hi; exact ⟨i0, rfl, by simpa using hi⟩
  simp only [Prod.mk.injEq] at hz
  have h1' := h1
  unfold OwnB at h1'
  refine wp_append_own w s x 29 ho base 5 i0 (.int .u8 0) 1 1 Tryd.underlying29 hi hz.1 hz.2.1 hz.2.2 rfl (by decide) v _ _ hs h1' _ _ _ (u8s ys) hx (by simp [u8s]) hcell (by intro u hu; obtain ⟨y, _, rfl⟩ := List.mem_map.1 hu; rfl) (by unfold maxLen; omega) (by omega) hbase ?_
  intro v' w' ho' hg' _
  refine h v' w' ?_ hg' ⟨hg'.os, hg'.tape, hg'.output, hg'.size, fun i hi => hg'.block i (by omega) ?_⟩
  · rw [← u8s_append, ← List.length_append] at ho'; exact ho'
  · rcases h1.2 with ⟨rfl, _⟩ | ⟨g1, c1, cur1, rfl, hb1, _⟩
    · simp [Value.ownBlock]
    · simp [Value.ownBlock]; omega
theorem wp_append_bytes2 {w : World} {ops : Array Oper} {rest : List Oper} {o : Oper} {a : Act} {Q : Exit → Act → World → Prop} {base base2 : Nat} {v v2 : Value} {xs ys : List UInt8} (hgd : o.guard = none) (s x : Operand)
    (ho : o.op = .call { callee := .builtin .append, args := #[s, x], argTypes := #[29, 29] })
    (hs : a.eval s = v) (hx : a.eval x = v2) (h1 : OwnB w base v xs) (h2 : OwnB w base2 v2 ys) (hne : 0 < ys.length) (hlen : xs.length + ys.length ≤ 1099511627776) (hbase : base ≤ w.heap.size)
    (h : ∀ v' w', OwnB w' base v' (xs ++ ys) → w.grownBy w' v.ownBlock → Below base w w' → wpList Tryd.prog ops Q rest (a.put o.dst v') w') : wpList Tryd.prog ops Q (o :: rest) a w :=
  wpList_plain hgd fun _ hK => oper_append_bytes2 s x ho hs hx h1 h2 hne hlen hbase fun v' w' a b c => hK _ _ (h v' w' a b c)
/-- Bytes in another block stay, when a list grows. -/
theorem OwnB.beside {w w' : World} {base : Nat} {v u : Value} {bs : List UInt8} (h : OwnB w base v bs) (hg : w.grownBy w' u.ownBlock) (hne : ∀ p q, v.ownBlock = some p → u.ownBlock = some q → p ≠ q) : OwnB w' base v bs := by
  unfold OwnB at *
  rcases hu : u.ownBlock with _ | q
  · rw [hu] at hg
    rcases h.2 with hn | ⟨g, cap, cur, hv, hb, hh, hr⟩
    · exact ⟨h.1, .inl hn⟩
    · exact ⟨h.1, .inr ⟨g, cap, cur, hv, hb, (hg.block g (Array.getElem?_eq_some_iff.1 hh).1 (by simp)).trans hh, hr⟩⟩
  · rw [hu] at hg
    rcases h.2 with hn | ⟨g, cap, cur, hv, hb, hh, hr⟩
    · exact ⟨h.1, .inl hn⟩
    · exact ⟨h.1, .inr ⟨g, cap, cur, hv, hb, (hg.block g (Array.getElem?_eq_some_iff.1 hh).1 (by intro e; injection e with e; exact hne g q (by rw [hv]; rfl) hu e)).trans hh, hr⟩⟩
theorem HKeep {w w' w0 : World} {T base : Nat} {l : List Value} {v : Value} {xs : List UInt8} (h : OwnL w T l) (hg : w.grownBy w' v.ownBlock) (hv : OwnB w0 base v xs) (hT : w0.heap.size ≤ T := by exact Nat.le_refl _) : OwnL w' T l := by
  have h1 := World.ownsRow.lt hv
  rcases hu : v.ownBlock with _ | q
  · rw [hu] at hg
    have hb : Below w.heap.size w w' := ⟨hg.os, hg.tape, hg.output, hg.size, fun i hi => hg.block i hi (by simp)⟩
    exact h.trk hb
  · rw [hu] at hg
    have := (h1 q hu).2
    exact h.grown hg (by omega)
set_option maxRecDepth 100000 in
theorem RefPutYes (b : Bool) (w : World) : Calls Tryd.prog 62 #[.bool b] w fun e w' => ∃ v, e = .returned v ∧ OwnB w' w.heap.size v (putYes b) ∧ Below w.heap.size w w' := by
  cases b
  · have e : putYes false = put4 0 := by rw [putYes, if_neg (by decide)]
    rw [e]
    have H0 := Lib.hid (RPut_any 0 (by omega))
    generalize put4 0 = ps at H0 ⊢
    go_enter Tryd.func62, Tryd.ntmps62
    go_wp2_with (go_at_call 25; (refine Calls.mono (H0.out _) ?_; rintro e w1 ⟨v1, rfl, o1, b1⟩))
    go_ret
    exact ⟨_, rfl, o1, b1⟩
  · have e : putYes true = put4 1 := by rw [putYes, if_pos rfl]
    rw [e]
    have H1 := Lib.hid (RPut_any 1 (by omega))
    generalize put4 1 = ps at H1 ⊢
    go_enter Tryd.func62, Tryd.ntmps62
    go_wp2_with (go_at_call 25; (refine Calls.mono (H1.out _) ?_; rintro e w1 ⟨v1, rfl, o1, b1⟩))
    go_ret
    exact ⟨_, rfl, o1, b1⟩
theorem putYes_length (b : Bool) : (putYes b).length = 4 := by cases b <;> rfl
set_option maxRecDepth 100000 in
set_option maxHeartbeats 2000000 in
theorem RefOption {w : World} {base base2 : Nat} {v v2 : Value} {xs ys : List UInt8} (has : Bool) (h1 : OwnB w base v xs) (h2 : OwnB w base2 v2 ys) (hbase : base ≤ w.heap.size) (hne : ∀ p q, v2.ownBlock = some p → v.ownBlock = some q → p ≠ q) (hy : 0 < ys.length) (hy2 : ys.length ≤ 1000) (hx : xs.length ≤ 1000) :
    Calls Tryd.prog 24 #[v, .bool has, v2] w fun e w' => ∃ v', e = .returned v' ∧ OwnB w' base v' (xs ++ optB has ys) ∧ Below base w w' := by
  have H1 := Lib.hid h1
  have H2 := Lib.hid h2
  have HN := Lib.hid hne
  have hl : (xs ++ putYes has).length ≤ 1004 := by rw [List.length_append, putYes_length]; omega
  have hl4 := putYes_length has
  clear h1 h2 hne
  rcases Bool.eq_false_or_eq_true has with hb | hb
  · subst hb
    have e : xs ++ optB true ys = (xs ++ putYes true) ++ ys := by rw [optB, if_pos rfl, List.append_assoc]
    rw [e]; clear e
    have HY := Lib.hid (RefPutYes true w)
    generalize putYes true = ps at *
    go_enter Tryd.func24, Tryd.ntmps24
    go_wp2_with (first
      | (go_at_call 62; refine Calls.mono HY.out ?_; rintro e w1 ⟨v1, rfl, o1, b1⟩; (have o0 := H1.out.below b1); (have o2 := H2.out.below b1); (have hz := b1.size))
      | (at_builtin; refine wp_append_bytes2 rfl _ _ rfl rfl rfl o0 o1 (by omega) (by omega) (by omega) ?_; intro v' w3 o3 g3 b3; (have o4 := o2.beside g3 HN.out); (have hz3 := b3.size); clear o0 o2 g3)
      | (at_builtin; refine wp_append_bytes rfl _ _ rfl rfl rfl o3 o4 hy (by omega) (by omega) ?_; intro v'' w5 o5 b5))
    go_ret
    exact ⟨_, rfl, o5, ((b1.mono hbase).trans b3).trans b5⟩
  · subst hb
    have e : xs ++ optB false ys = (xs ++ putYes false) := by rw [optB, if_neg (by decide), List.append_nil]
    rw [e]; clear e
    have HY := Lib.hid (RefPutYes false w)
    generalize putYes false = ps at *
    go_enter Tryd.func24, Tryd.ntmps24
    go_wp2_with (first
      | (go_at_call 62; refine Calls.mono HY.out ?_; rintro e w1 ⟨v1, rfl, o1, b1⟩; (have o0 := H1.out.below b1); (have hz := b1.size))
      | (at_builtin; refine wp_append_bytes rfl _ _ rfl rfl rfl o0 o1 (by omega) (by omega) (by omega) ?_; intro v' w3 o3 b3))
    go_ret
    exact ⟨_, rfl, o3, (b1.mono hbase).trans b3⟩
set_option maxRecDepth 100000 in
set_option maxHeartbeats 2000000 in
theorem RefHow {w : World} {base : Nat} {v : Value} {xs : List UInt8} (h : Nat) (t : Tm) (hh : h < 4294967296) (ht : t.wf) (h1 : OwnB w base v xs) (hbase : base ≤ w.heap.size) (hx : xs.length ≤ 1000) :
    Calls Tryd.prog 27 #[v, .int .u32 h, .agg #[.int .u32 t.sec, .int .u32 t.nano]] w fun e w' => ∃ v', e = .returned v' ∧ OwnB w' base v' (xs ++ howB h t) ∧ Below base w w' := by
  have H1 := Lib.hid h1
  have HT := Lib.hid (fun w => RTPut_w t ht w)
  have HP := Lib.hid (fun w => RPut_any h hh w)
  have hl4 := put4_length h
  have hl8 := putTm_length t
  clear h1 ht
  by_cases hb : h = 2
  · have e : xs ++ howB h t = (xs ++ put4 h) ++ putTm t := by rw [howB, if_pos hb, List.append_assoc]
    rw [e]; clear e
    have hl : (xs ++ put4 h).length ≤ 1004 := by rw [List.length_append]; omega
    generalize put4 h = ps at *
    generalize putTm t = qs at *
    subst hb
    go_enter Tryd.func27, Tryd.ntmps27
    have oA := OwnL.made' w [.int .u32 t.sec, .int .u32 t.nano] 26
    have hB : Below w.heap.size w (w.alloc (.cells #[.int .u32 t.sec, .int .u32 t.nano] 26)) := bl_alloc (Below.refl _ _) _
    go_wp2_with (first
      | (go_at_call 25; refine Calls.mono (HP.out _) ?_; rintro e w1 ⟨v1, rfl, o1, b1⟩; (have o0 := (H1.out.below hB).below b1); (have oA := oA.trk b1); (have hz := (bl_then hB b1).size); (have hB := bl_then hB b1))
      | (at_builtin; refine wp_append_bytes2 rfl _ _ rfl rfl rfl o0 o1 (by omega) (by omega) (by omega) ?_; intro v' w3 o3 g3 b3; (have oB := HKeep oA g3 H1.out); (have hz3 := b3.size); clear o0 oA g3)
      | (refine wpList_load_own (by kernel_rfl) 26 _ rfl rfl oB _ Tryd.underlying26 rfl (by kernel_rfl) ?_)
      | (go_at_call 31; refine Calls.mono (HT.out _) ?_; rintro e w4 ⟨v4, rfl, o4, b4⟩; (have o5 := o3.below b4); (have hz4 := b4.size))
      | (at_builtin; refine wp_append_bytes rfl _ _ rfl rfl rfl o5 o4 (by omega) (by omega) (by omega) ?_; intro v'' w6 o6 b6))
    go_ret
    exact ⟨_, rfl, o6, (((hB.mono hbase).trans b3).trans (b4.mono (by omega))).trans b6⟩
  · have e : xs ++ howB h t = (xs ++ put4 h) := by rw [howB, if_neg hb, List.append_nil]
    rw [e]; clear e
    have hbi : ¬ ((h : Int) = 2) := by omega
    generalize put4 h = ps at *
    go_enter Tryd.func27, Tryd.ntmps27
    have hB : Below w.heap.size w (w.alloc (.cells #[.int .u32 t.sec, .int .u32 t.nano] 26)) := bl_alloc (Below.refl _ _) _
    go_wp2_with (first
      | (go_at_call 25; refine Calls.mono (HP.out _) ?_; rintro e w1 ⟨v1, rfl, o1, b1⟩; (have o0 := (H1.out.below hB).below b1); (have hz := (bl_then hB b1).size); (have hB := bl_then hB b1))
      | (at_builtin; refine wp_append_bytes rfl _ _ rfl rfl rfl o0 o1 (by omega) (by omega) (by omega) ?_; intro v' w3 o3 b3))
    go_ret
    exact ⟨_, rfl, o3, (hB.mono hbase).trans b3⟩
end Go.Proofs.YtkaapdnjlmceoaaDoor
namespace Go.Proofs.YtkaapdnjlmceoaaDoor
open Go.RowKit
theorem optB_le (h : Bool) (b : List UInt8) : (optB h b).length ≤ 4 + b.length := by
  unfold optB; rw [List.length_append, putYes_length]; split
  · omega
  · simp
theorem howB_le (h : Nat) (t : Tm) : (howB h t).length ≤ 12 := by
  unfold howB; rw [List.length_append, put4_length]; split
  · rw [putTm_length]; omega
  · simp
theorem le_S (s : St) : (optB s.hasMode (put4 s.mode)).length ≤ 8 ∧ (optB s.hasUser (put4 s.user)).length ≤ 8 ∧ (optB s.hasGroup (put4 s.group)).length ≤ 8 ∧ (optB s.hasSize (put8 s.size)).length ≤ 12 ∧ (howB s.readHow s.read).length ≤ 12 ∧ (howB s.writeHow s.write).length ≤ 12 :=
  ⟨optB_le _ _, optB_le _ _, optB_le _ _, optB_le _ _, howB_le _ _, howB_le _ _⟩
theorem putSt_len (s : St) : (putSt s).length ≤ 100 := by
  have := le_S s
  unfold putSt; simp only [List.length_append]; omega
theorem tm_zero (t : Tm) : (t == (⟨0, 0⟩ : Tm)) = (decide ((t.sec : Int) = 0) && decide ((t.nano : Int) = 0)) := by
  rcases t with ⟨a, b⟩
  by_cases h : a = 0 ∧ b = 0
  · obtain ⟨rfl, rfl⟩ := h; rfl
  · have : ¬ ((⟨a, b⟩ : Tm) = ⟨0, 0⟩) := by intro hh; injection hh with h1 h2; exact h ⟨h1, h2⟩
    rw [show ((⟨a, b⟩ : Tm) == ⟨0, 0⟩) = false by simpa using this]
    symm
    simp; omega
theorem stopAt (d : Nat) {P : Program} {ops : Array Oper} {Q : Exit → Act → World → Prop} {o : Oper} {rest : List Oper} {a : Act} {w : World} (hd : o.dst = some d) (h : wpList P ops Q (o :: rest) a w) : wpList P ops Q (o :: rest) a w := h
theorem seg2 (d : Nat) {P : Program} {ops : Array Oper} {Q : Exit → Act → World → Prop} {o : Oper} {rest : List Oper} {a : Act} {w : World} (hd : o.dst = some d) (m : Nat) (C : Bool) (f : Act → Bool → Value → Value → Act) (leaf : (∀ (b : Bool) (j0 j1 : Value), b = C → wpList P ops Q ((o :: rest).drop m) (f a b j0 j1) w) → wpList P ops Q (o :: rest) a w) (H : ∀ (b : Bool) (j0 j1 : Value), b = C → wpList P ops Q ((o :: rest).drop m) (f a b j0 j1) w) : wpList P ops Q (o :: rest) a w := leaf H
theorem seg3 (d : Nat) {P : Program} {ops : Array Oper} {Q : Exit → Act → World → Prop} {o : Oper} {rest : List Oper} {a : Act} {w : World} (hd : o.dst = some d) (m : Nat) (C : Bool) (f : Act → Bool → Value → Value → Value → Act) (leaf : (∀ (b : Bool) (j0 j1 j2 : Value), b = C → wpList P ops Q ((o :: rest).drop m) (f a b j0 j1 j2) w) → wpList P ops Q (o :: rest) a w) (H : ∀ (b : Bool) (j0 j1 j2 : Value), b = C → wpList P ops Q ((o :: rest).drop m) (f a b j0 j1 j2) w) : wpList P ops Q (o :: rest) a w := leaf H
theorem seg8 (d : Nat) {P : Program} {ops : Array Oper} {Q : Exit → Act → World → Prop} {o : Oper} {rest : List Oper} {a : Act} {w : World} (hd : o.dst = some d) (m : Nat) (C : Bool) (f : Act → Bool → Value → Value → Value → Value → Value → Value → Value → Value → Act) (leaf : (∀ (b : Bool) (j0 j1 j2 j3 j4 j5 j6 j7 : Value), b = C → wpList P ops Q ((o :: rest).drop m) (f a b j0 j1 j2 j3 j4 j5 j6 j7) w) → wpList P ops Q (o :: rest) a w) (H : ∀ (b : Bool) (j0 j1 j2 j3 j4 j5 j6 j7 : Value), b = C → wpList P ops Q ((o :: rest).drop m) (f a b j0 j1 j2 j3 j4 j5 j6 j7) w) : wpList P ops Q (o :: rest) a w := leaf H
theorem seg9 (d : Nat) {P : Program} {ops : Array Oper} {Q : Exit → Act → World → Prop} {o : Oper} {rest : List Oper} {a : Act} {w : World} (hd : o.dst = some d) (m : Nat) (C : Bool) (f : Act → Bool → Value → Value → Value → Value → Value → Value → Value → Value → Value → Act) (leaf : (∀ (b : Bool) (j0 j1 j2 j3 j4 j5 j6 j7 j8 : Value), b = C → wpList P ops Q ((o :: rest).drop m) (f a b j0 j1 j2 j3 j4 j5 j6 j7 j8) w) → wpList P ops Q (o :: rest) a w) (H : ∀ (b : Bool) (j0 j1 j2 j3 j4 j5 j6 j7 j8 : Value), b = C → wpList P ops Q ((o :: rest).drop m) (f a b j0 j1 j2 j3 j4 j5 j6 j7 j8) w) : wpList P ops Q (o :: rest) a w := leaf H
theorem tm_zeroN (t : Tm) : (t == (⟨0, 0⟩ : Tm)) = (decide (t.sec = 0) && decide (t.nano = 0)) := by
  rw [tm_zero]
  have e1 : decide ((t.sec : Int) = 0) = decide (t.sec = 0) := decide_eq_decide.2 (by omega)
  have e2 : decide ((t.nano : Int) = 0) = decide (t.nano = 0) := decide_eq_decide.2 (by omega)
  rw [e1, e2]
theorem badS_eq (s : St) : badS s = (((((((((decide (4095 < s.mode) || (!s.hasMode && !(s.mode == 0))) || (!s.hasUser && !(s.user == 0))) || (!s.hasGroup && !(s.group == 0))) || (!s.hasSize && !(s.size == 0))) || decide (2 < s.readHow)) || decide (2 < s.writeHow)) || (!(s.readHow == 2) && !(decide (s.read.sec = 0) && decide (s.read.nano = 0)))) || (!(s.writeHow == 2) && !(decide (s.write.sec = 0) && decide (s.write.nano = 0)))) || (!s.read.ok || !s.write.ok)) := by
  unfold badS
  rw [tm_zeroN, tm_zeroN]
  simp only [Bool.or_assoc]
set_option maxRecDepth 100000 in
set_option maxHeartbeats 16000000 in
theorem RefPutSet {s : St} {w : World} (hs : s.wf) : Calls Tryd.prog 9 #[eSet s] w (PutPost (rSet s) w) := by
  rw [rSet_if]
  generalize hr : (if badS s = true then Except.error 1 else Except.ok (putSt s) : Except Int (List UInt8)) = r
  have HS := Lib.hid hs
  clear hs
  simp only [eSet, St.cells]
  go_enter Tryd.func9, Tryd.ntmps9
  go_upto_region 2 with fail
  have oA := OwnL.trk (OwnL.made' w [Value.bool s.hasMode, .int .u32 s.mode, .bool s.hasUser, .int .u32 s.user, .bool s.hasGroup, .int .u32 s.group, .bool s.hasSize, .int .u64 s.size, .int .u32 s.readHow, .int .u32 s.read.sec, .int .u32 s.read.nano, .int .u32 s.writeHow, .int .u32 s.write.sec, .int .u32 s.write.nano] 37) ((Below.refl _ _).alloc (Nat.le_refl _) (.cells #[.int .u32 0, .int .u32 0] 26))
  have oN := OwnL.made' (w.alloc (.cells [Value.bool s.hasMode, .int .u32 s.mode, .bool s.hasUser, .int .u32 s.user, .bool s.hasGroup, .int .u32 s.group, .bool s.hasSize, .int .u64 s.size, .int .u32 s.readHow, .int .u32 s.read.sec, .int .u32 s.read.nano, .int .u32 s.writeHow, .int .u32 s.write.sec, .int .u32 s.write.nano].toArray 37)) [.int .u32 0, .int .u32 0] 26
  have hB : Below w.heap.size w ((w.alloc (.cells [Value.bool s.hasMode, .int .u32 s.mode, .bool s.hasUser, .int .u32 s.user, .bool s.hasGroup, .int .u32 s.group, .bool s.hasSize, .int .u64 s.size, .int .u32 s.readHow, .int .u32 s.read.sec, .int .u32 s.read.nano, .int .u32 s.writeHow, .int .u32 s.write.sec, .int .u32 s.write.nano].toArray 37)).alloc (.cells #[.int .u32 0, .int .u32 0] 26)) := bl_alloc (bl_alloc (Below.refl _ _) _) _
  have hz : ((w.alloc (.cells [Value.bool s.hasMode, .int .u32 s.mode, .bool s.hasUser, .int .u32 s.user, .bool s.hasGroup, .int .u32 s.group, .bool s.hasSize, .int .u64 s.size, .int .u32 s.readHow, .int .u32 s.read.sec, .int .u32 s.read.nano, .int .u32 s.writeHow, .int .u32 s.write.sec, .int .u32 s.write.nano].toArray 37)).alloc (.cells #[.int .u32 0, .int .u32 0] 26)).heap.size = w.heap.size + 2 := by simp
  have hT : (w.alloc (.cells [Value.bool s.hasMode, .int .u32 s.mode, .bool s.hasUser, .int .u32 s.user, .bool s.hasGroup, .int .u32 s.group, .bool s.hasSize, .int .u64 s.size, .int .u32 s.readHow, .int .u32 s.read.sec, .int .u32 s.read.nano, .int .u32 s.writeHow, .int .u32 s.write.sec, .int .u32 s.write.nano].toArray 37)).heap.size = w.heap.size + 1 := by simp
  rw [hT] at oN
  simp only [List.toArray] at oA oN hB hz
  clear hT
  generalize (w.alloc _).alloc _ = W1 at oA oN hB hz ⊢
  generalize Value.agg #[Value.bool s.hasMode, .int .u32 s.mode, .bool s.hasUser, .int .u32 s.user, .bool s.hasGroup, .int .u32 s.group, .bool s.hasSize, .int .u64 s.size, .int .u32 s.readHow, .int .u32 s.read.sec, .int .u32 s.read.nano, .int .u32 s.writeHow, .int .u32 s.write.sec, .int .u32 s.write.nano] = V0
  have hA := oA.2.1
  have hN := oN.2.1
  try dsimp only [List.append_eq, List.cons_append, List.nil_append]
  have HZ1 := Lib.hid (tm_zero s.read)
  have HZ2 := Lib.hid (tm_zero s.write)
  go_cut [0, 92] from 6 (fun s0 s92 wx => s92 = .bool (badS s) ∧ OwnL wx w.heap.size [Value.bool s.hasMode, .int .u32 s.mode, .bool s.hasUser, .int .u32 s.user, .bool s.hasGroup, .int .u32 s.group, .bool s.hasSize, .int .u64 s.size, .int .u32 s.readHow, .int .u32 s.read.sec, .int .u32 s.read.nano, .int .u32 s.writeHow, .int .u32 s.write.sec, .int .u32 s.write.nano] ∧ Below w.heap.size w wx ∧ w.heap.size + 2 ≤ wx.heap.size)
  case first =>
    clear HS oN
    clear HZ1 HZ2
    go_wp2_with (first
      | ((with_reducible refine seg2 6 rfl 4 (decide (4095 < s.mode)) (fun a b j0 j1 => ((((a.put (some 6) j0).put (some 7) j1).put (some 8) (.bool b)).put (some 9) (.bool b))) ?_ ?_); (· (intro H; simp only [Act.put, List.setIfInBounds_toArray, List.set_cons_succ, List.set_cons_zero, List.drop_succ_cons, List.drop_zero] at H; (have HH := Lib.hid H); clear H; (by_cases hN : 4095 < s.mode); (all_goals (first | (have hm : 4095 < (s.mode : Int) := by omega) | (have hm : ¬ (4095 < (s.mode : Int)) := by omega))); all_goals (go_wp2_with ((with_reducible refine stopAt 10 rfl ?_); (with_reducible refine HH.out _ _ _ ?_); first | (simp [hN, hm]; done) | (rw [Bool.eq_iff_iff]; simp [hN, hm]; done))))); (intro bA j0 j1 ebA; (have EbA := Lib.hid ebA); clear ebA; simp only [Act.put, List.setIfInBounds_toArray, List.set_cons_succ, List.set_cons_zero, List.drop_succ_cons, List.drop_zero]))
      | ((with_reducible refine seg8 10 rfl 10 (bA || (!s.hasMode && !(s.mode == 0))) (fun a b j0 j1 j2 j3 j4 j5 j6 j7 => ((((((((((a.put (some 10) j0).put (some 11) j1).put (some 12) j2).put (some 13) j3).put (some 14) j4).put (some 15) j5).put (some 16) j6).put (some 17) j7).put (some 18) (.bool b)).put (some 19) (.bool b))) ?_ ?_); (· (intro H; simp only [Act.put, List.setIfInBounds_toArray, List.set_cons_succ, List.set_cons_zero, List.drop_succ_cons, List.drop_zero] at H; (have HH := Lib.hid H); clear H; (rcases bA with _ | _); (· ((rcases Bool.eq_false_or_eq_true s.hasMode with h | h); (all_goals ((by_cases hN : s.mode = 0); (all_goals (first | (have hv : (s.mode : Int) = 0 := by omega) | (have hv : ¬ ((s.mode : Int) = 0) := by omega))))); all_goals (go_wp2_with ((with_reducible refine stopAt 20 rfl ?_); (with_reducible refine HH.out _ _ _ _ _ _ _ _ _ ?_); first | (simp [h, hN, hv]; done) | (rw [Bool.eq_iff_iff]; simp [h, hN, hv]; done))))); (· (go_wp2_with ((with_reducible refine stopAt 20 rfl ?_); (with_reducible refine HH.out _ _ _ _ _ _ _ _ _ ?_); simp; done))))); (intro bB j0 j1 j2 j3 j4 j5 j6 j7 ebB; (have EbB := Lib.hid ebB); clear ebB; simp only [Act.put, List.setIfInBounds_toArray, List.set_cons_succ, List.set_cons_zero, List.drop_succ_cons, List.drop_zero]))
      | ((with_reducible refine seg8 20 rfl 10 (bB || (!s.hasUser && !(s.user == 0))) (fun a b j0 j1 j2 j3 j4 j5 j6 j7 => ((((((((((a.put (some 20) j0).put (some 21) j1).put (some 22) j2).put (some 23) j3).put (some 24) j4).put (some 25) j5).put (some 26) j6).put (some 27) j7).put (some 28) (.bool b)).put (some 29) (.bool b))) ?_ ?_); (· (intro H; simp only [Act.put, List.setIfInBounds_toArray, List.set_cons_succ, List.set_cons_zero, List.drop_succ_cons, List.drop_zero] at H; (have HH := Lib.hid H); clear H; (rcases bB with _ | _); (· ((rcases Bool.eq_false_or_eq_true s.hasUser with h | h); (all_goals ((by_cases hN : s.user = 0); (all_goals (first | (have hv : (s.user : Int) = 0 := by omega) | (have hv : ¬ ((s.user : Int) = 0) := by omega))))); all_goals (go_wp2_with ((with_reducible refine stopAt 30 rfl ?_); (with_reducible refine HH.out _ _ _ _ _ _ _ _ _ ?_); first | (simp [h, hN, hv]; done) | (rw [Bool.eq_iff_iff]; simp [h, hN, hv]; done))))); (· (go_wp2_with ((with_reducible refine stopAt 30 rfl ?_); (with_reducible refine HH.out _ _ _ _ _ _ _ _ _ ?_); simp; done))))); (intro bC j0 j1 j2 j3 j4 j5 j6 j7 ebC; (have EbC := Lib.hid ebC); clear ebC; simp only [Act.put, List.setIfInBounds_toArray, List.set_cons_succ, List.set_cons_zero, List.drop_succ_cons, List.drop_zero]))
      | ((with_reducible refine seg8 30 rfl 10 (bC || (!s.hasGroup && !(s.group == 0))) (fun a b j0 j1 j2 j3 j4 j5 j6 j7 => ((((((((((a.put (some 30) j0).put (some 31) j1).put (some 32) j2).put (some 33) j3).put (some 34) j4).put (some 35) j5).put (some 36) j6).put (some 37) j7).put (some 38) (.bool b)).put (some 39) (.bool b))) ?_ ?_); (· (intro H; simp only [Act.put, List.setIfInBounds_toArray, List.set_cons_succ, List.set_cons_zero, List.drop_succ_cons, List.drop_zero] at H; (have HH := Lib.hid H); clear H; (rcases bC with _ | _); (· ((rcases Bool.eq_false_or_eq_true s.hasGroup with h | h); (all_goals ((by_cases hN : s.group = 0); (all_goals (first | (have hv : (s.group : Int) = 0 := by omega) | (have hv : ¬ ((s.group : Int) = 0) := by omega))))); all_goals (go_wp2_with ((with_reducible refine stopAt 40 rfl ?_); (with_reducible refine HH.out _ _ _ _ _ _ _ _ _ ?_); first | (simp [h, hN, hv]; done) | (rw [Bool.eq_iff_iff]; simp [h, hN, hv]; done))))); (· (go_wp2_with ((with_reducible refine stopAt 40 rfl ?_); (with_reducible refine HH.out _ _ _ _ _ _ _ _ _ ?_); simp; done))))); (intro bD j0 j1 j2 j3 j4 j5 j6 j7 ebD; (have EbD := Lib.hid ebD); clear ebD; simp only [Act.put, List.setIfInBounds_toArray, List.set_cons_succ, List.set_cons_zero, List.drop_succ_cons, List.drop_zero]))
      | ((with_reducible refine seg8 40 rfl 10 (bD || (!s.hasSize && !(s.size == 0))) (fun a b j0 j1 j2 j3 j4 j5 j6 j7 => ((((((((((a.put (some 40) j0).put (some 41) j1).put (some 42) j2).put (some 43) j3).put (some 44) j4).put (some 45) j5).put (some 46) j6).put (some 47) j7).put (some 48) (.bool b)).put (some 49) (.bool b))) ?_ ?_); (· (intro H; simp only [Act.put, List.setIfInBounds_toArray, List.set_cons_succ, List.set_cons_zero, List.drop_succ_cons, List.drop_zero] at H; (have HH := Lib.hid H); clear H; (rcases bD with _ | _); (· ((rcases Bool.eq_false_or_eq_true s.hasSize with h | h); (all_goals ((by_cases hN : s.size = 0); (all_goals (first | (have hv : (s.size : Int) = 0 := by omega) | (have hv : ¬ ((s.size : Int) = 0) := by omega))))); all_goals (go_wp2_with ((with_reducible refine stopAt 50 rfl ?_); (with_reducible refine HH.out _ _ _ _ _ _ _ _ _ ?_); first | (simp [h, hN, hv]; done) | (rw [Bool.eq_iff_iff]; simp [h, hN, hv]; done))))); (· (go_wp2_with ((with_reducible refine stopAt 50 rfl ?_); (with_reducible refine HH.out _ _ _ _ _ _ _ _ _ ?_); simp; done))))); (intro bE j0 j1 j2 j3 j4 j5 j6 j7 ebE; (have EbE := Lib.hid ebE); clear ebE; simp only [Act.put, List.setIfInBounds_toArray, List.set_cons_succ, List.set_cons_zero, List.drop_succ_cons, List.drop_zero]))
      | ((with_reducible refine seg3 50 rfl 5 (bE || decide (2 < s.readHow)) (fun a b j0 j1 j2 => (((((a.put (some 50) j0).put (some 51) j1).put (some 52) j2).put (some 53) (.bool b)).put (some 54) (.bool b))) ?_ ?_); (· (intro H; simp only [Act.put, List.setIfInBounds_toArray, List.set_cons_succ, List.set_cons_zero, List.drop_succ_cons, List.drop_zero] at H; (have HH := Lib.hid H); clear H; (rcases bE with _ | _); (· ((by_cases hN : 2 < s.readHow); (all_goals (first | (have hv : 2 < (s.readHow : Int) := by omega) | (have hv : ¬ (2 < (s.readHow : Int)) := by omega))); all_goals (go_wp2_with ((with_reducible refine stopAt 55 rfl ?_); (with_reducible refine HH.out _ _ _ _ ?_); first | (simp [hN, hv]; done) | (rw [Bool.eq_iff_iff]; simp [hN, hv]; done))))); (· (go_wp2_with ((with_reducible refine stopAt 55 rfl ?_); (with_reducible refine HH.out _ _ _ _ ?_); simp; done))))); (intro bF j0 j1 j2 ebF; (have EbF := Lib.hid ebF); clear ebF; simp only [Act.put, List.setIfInBounds_toArray, List.set_cons_succ, List.set_cons_zero, List.drop_succ_cons, List.drop_zero]))
      | ((with_reducible refine seg3 55 rfl 5 (bF || decide (2 < s.writeHow)) (fun a b j0 j1 j2 => (((((a.put (some 55) j0).put (some 56) j1).put (some 57) j2).put (some 58) (.bool b)).put (some 59) (.bool b))) ?_ ?_); (· (intro H; simp only [Act.put, List.setIfInBounds_toArray, List.set_cons_succ, List.set_cons_zero, List.drop_succ_cons, List.drop_zero] at H; (have HH := Lib.hid H); clear H; (rcases bF with _ | _); (· ((by_cases hN : 2 < s.writeHow); (all_goals (first | (have hv : 2 < (s.writeHow : Int) := by omega) | (have hv : ¬ (2 < (s.writeHow : Int)) := by omega))); all_goals (go_wp2_with ((with_reducible refine stopAt 60 rfl ?_); (with_reducible refine HH.out _ _ _ _ ?_); first | (simp [hN, hv]; done) | (rw [Bool.eq_iff_iff]; simp [hN, hv]; done))))); (· (go_wp2_with ((with_reducible refine stopAt 60 rfl ?_); (with_reducible refine HH.out _ _ _ _ ?_); simp; done))))); (intro bG j0 j1 j2 ebG; (have EbG := Lib.hid ebG); clear ebG; simp only [Act.put, List.setIfInBounds_toArray, List.set_cons_succ, List.set_cons_zero, List.drop_succ_cons, List.drop_zero]))
      | ((with_reducible refine seg9 60 rfl 11 (bG || (!(s.readHow == 2) && !(decide (s.read.sec = 0) && decide (s.read.nano = 0)))) (fun a b j0 j1 j2 j3 j4 j5 j6 j7 j8 => (((((((((((a.put (some 60) j0).put (some 61) j1).put (some 62) j2).put (some 63) j3).put (some 64) j4).put (some 65) j5).put (some 66) j6).put (some 67) j7).put (some 68) j8).put (some 69) (.bool b)).put (some 70) (.bool b))) ?_ ?_); (· (intro H; simp only [Act.put, List.setIfInBounds_toArray, List.set_cons_succ, List.set_cons_zero, List.drop_succ_cons, List.drop_zero] at H; (have HH := Lib.hid H); clear H; (rcases bG with _ | _); (· (((by_cases hN : s.readHow = 2); (all_goals (first | (have hv : (s.readHow : Int) = 2 := by omega) | (have hv : ¬ ((s.readHow : Int) = 2) := by omega)))); (all_goals ((by_cases hsN : s.read.sec = 0); (all_goals (first | (have hs : (s.read.sec : Int) = 0 := by omega) | (have hs : ¬ ((s.read.sec : Int) = 0) := by omega))))); (all_goals ((by_cases hnN : s.read.nano = 0); (all_goals (first | (have hn : (s.read.nano : Int) = 0 := by omega) | (have hn : ¬ ((s.read.nano : Int) = 0) := by omega))))); all_goals (go_wp2_with ((with_reducible refine stopAt 71 rfl ?_); (with_reducible refine HH.out _ _ _ _ _ _ _ _ _ _ ?_); first | (simp [hN, hsN, hnN, hv, hs, hn]; done) | (rw [Bool.eq_iff_iff]; simp [hN, hsN, hnN, hv, hs, hn]; done))))); (· (go_wp2_with ((with_reducible refine stopAt 71 rfl ?_); (with_reducible refine HH.out _ _ _ _ _ _ _ _ _ _ ?_); simp; done))))); (intro bH j0 j1 j2 j3 j4 j5 j6 j7 j8 ebH; (have EbH := Lib.hid ebH); clear ebH; simp only [Act.put, List.setIfInBounds_toArray, List.set_cons_succ, List.set_cons_zero, List.drop_succ_cons, List.drop_zero]))
      | ((with_reducible refine seg9 71 rfl 11 (bH || (!(s.writeHow == 2) && !(decide (s.write.sec = 0) && decide (s.write.nano = 0)))) (fun a b j0 j1 j2 j3 j4 j5 j6 j7 j8 => (((((((((((a.put (some 71) j0).put (some 72) j1).put (some 73) j2).put (some 74) j3).put (some 75) j4).put (some 76) j5).put (some 77) j6).put (some 78) j7).put (some 79) j8).put (some 80) (.bool b)).put (some 81) (.bool b))) ?_ ?_); (· (intro H; simp only [Act.put, List.setIfInBounds_toArray, List.set_cons_succ, List.set_cons_zero, List.drop_succ_cons, List.drop_zero] at H; (have HH := Lib.hid H); clear H; (rcases bH with _ | _); (· (((by_cases hN : s.writeHow = 2); (all_goals (first | (have hv : (s.writeHow : Int) = 2 := by omega) | (have hv : ¬ ((s.writeHow : Int) = 2) := by omega)))); (all_goals ((by_cases hsN : s.write.sec = 0); (all_goals (first | (have hs : (s.write.sec : Int) = 0 := by omega) | (have hs : ¬ ((s.write.sec : Int) = 0) := by omega))))); (all_goals ((by_cases hnN : s.write.nano = 0); (all_goals (first | (have hn : (s.write.nano : Int) = 0 := by omega) | (have hn : ¬ ((s.write.nano : Int) = 0) := by omega))))); all_goals (go_wp2_with ((with_reducible refine stopAt 82 rfl ?_); (with_reducible refine HH.out _ _ _ _ _ _ _ _ _ _ ?_); first | (simp [hN, hsN, hnN, hv, hs, hn]; done) | (rw [Bool.eq_iff_iff]; simp [hN, hsN, hnN, hv, hs, hn]; done))))); (· (go_wp2_with ((with_reducible refine stopAt 82 rfl ?_); (with_reducible refine HH.out _ _ _ _ _ _ _ _ _ _ ?_); simp; done))))); (intro bI j0 j1 j2 j3 j4 j5 j6 j7 j8 ebI; (have EbI := Lib.hid ebI); clear ebI; simp only [Act.put, List.setIfInBounds_toArray, List.set_cons_succ, List.set_cons_zero, List.drop_succ_cons, List.drop_zero]))
      | ((with_reducible refine stopAt 82 rfl ?_); (rcases bI with _ | _); (all_goals (rcases Bool.eq_false_or_eq_true s.read.ok with hr | hr)); (all_goals (rcases Bool.eq_false_or_eq_true s.write.ok with hw | hw)))
      | (go_at_call 23; first | ((with_reducible refine Calls.mono (RCheck_t s.read _) ?_); rintro e w1 ⟨rfl, rfl⟩) | ((with_reducible refine Calls.mono (RCheck_t s.write _) ?_); rintro e w1 ⟨rfl, rfl⟩)))
    all_goals go_meet
    all_goals (refine ⟨?_, oA.trk (by (with_reducible (repeat' (first | exact Below.refl _ _ | assumption | apply bl_alloc | apply bl_drewN | apply bl_drew | refine bl_set ?_ ?_ _))) <;> (first | done | (simp; done) | (simp; omega) | omega)), bl_then hB (by (with_reducible (repeat' (first | exact Below.refl _ _ | assumption | apply bl_alloc | apply bl_drewN | apply bl_drew | refine bl_set ?_ ?_ _))) <;> (first | done | (simp; done) | (simp; omega) | omega)), ?_⟩)
    all_goals first | omega | (simp; omega) | skip
    all_goals (refine congrArg Value.bool ?_; rw [badS_eq, ← EbA.out, ← EbB.out, ← EbC.out, ← EbD.out, ← EbE.out, ← EbF.out, ← EbG.out, ← EbH.out, ← EbI.out]; simp [hr, hw])
  case rest =>
    clear oA hA hN hB hz
    obtain ⟨rfl, oX0, HB0, hz0⟩ := hcut
    have HL := Lib.hid (le_S s)
    rcases Bool.eq_false_or_eq_true (badS s) with hb | hb
    · rw [hb]
      go_wp2_with fail
      rw [hb, if_pos rfl] at hr
      subst hr
      refine bodyPost_ret (v := .tuple #[_, _]) (by simp [results, Tryd.results9, go_sem]) rfl ⟨HB0, .inr ⟨_, rfl, rfl⟩⟩
    · rw [hb]
      have hz0' : wc.heap.size ≤ wc.heap.size := Nat.le_refl _
      have hlt : w.heap.size < wc.heap.size := by omega
      have HK0 := Lib.hid (OwnB.nil wc wc.heap.size)
      have HP0 := Lib.hid (fun wq => RPut_any s.mode (by have := HS.out; unfold St.wf at this; omega) wq)
      have HP1 := Lib.hid (fun wq => RPut_any s.user (by have := HS.out; unfold St.wf at this; omega) wq)
      have HP2 := Lib.hid (fun wq => RPut_any s.group (by have := HS.out; unfold St.wf at this; omega) wq)
      have HP3 := Lib.hid (fun wq => RPutLong_any s.size (by have := HS.out; unfold St.wf at this; omega) wq)
      go_upto_region 5 with fail
      try simp (config := {failIfUnchanged := false}) only [List.append_eq, List.cons_append, List.nil_append]
      go_region_held3 (fun wy => wy.cell? ⟨w.heap.size, 0, none⟩ = some (.bool s.hasMode) ∧ wy.cell? ⟨w.heap.size, 1, none⟩ = some (.int .u32 s.mode)) (first | (refine ⟨(OwnL.trk (OwnL.belowm oY b1 hlt) ?_).2.1 0, (OwnL.trk (OwnL.belowm oY b1 hlt) ?_).2.1 1⟩ <;> ((with_reducible (repeat' (first | exact Below.refl _ _ | assumption | apply bl_alloc | apply bl_drewN | apply bl_drew | refine bl_set ?_ ?_ _))) <;> (first | done | (simp; done) | (simp; omega) | omega))) | (refine ⟨(OwnL.trk oY ?_).2.1 0, (OwnL.trk oY ?_).2.1 1⟩ <;> ((with_reducible (repeat' (first | exact Below.refl _ _ | assumption | apply bl_alloc | apply bl_drewN | apply bl_drew | refine bl_set ?_ ?_ _))) <;> (first | done | (simp; done) | (simp; omega) | omega))) | (refine ⟨(OwnL.trk oX0 ?_).2.1 0, (OwnL.trk oX0 ?_).2.1 1⟩ <;> ((with_reducible (repeat' (first | exact Below.refl _ _ | assumption | apply bl_alloc | apply bl_drewN | apply bl_drew | refine bl_set ?_ ?_ _))) <;> (first | done | (simp; done) | (simp; omega) | omega)))) (first
        | (go_at_call 25; refine Calls.mono (HP0.out _) ?_; rintro e wa ⟨va, rfl, oa, ba⟩; (have B1 : Below wc.heap.size wc wa := bl_then (by (with_reducible (repeat' (first | exact Below.refl _ _ | assumption | apply bl_alloc | apply bl_drewN | apply bl_drew | refine bl_set ?_ ?_ _))) <;> (first | done | (simp; done) | (simp; omega) | omega)) ba); (have oY := oX0.trk B1); (have p1 := HK0.out.below B1); (have z1 := B1.size))
        | (go_at_call 24; refine Calls.mono (RefOption s.hasMode p1 oa (by omega) (fun p q h1 h2 => (OwnB.apart HK0.out oa (by first | exact Nat.le_refl _ | (simp; done) | (simp; omega)) h2 h1).symm) (by rw [put4_length]; omega) (by rw [put4_length]; omega) (by have := HL.out; simp only [List.length_append, List.length_nil]; omega)) ?_; rintro e w1 ⟨v1, rfl, o1, b1⟩))
      have HK1 := Lib.hid o1
      have oX1 := OwnL.belowm oY b1 (by omega)
      have HB1 : Below w.heap.size w w1 := (HB0.trans (B1.mono (by omega))).trans (b1.mono (by omega))
      have hz1 : wc.heap.size ≤ w1.heap.size := by have := b1.size; omega
      clear o1 b1 oY p1 z1 B1 ba oa oX0 HK0
      go_upto_region 6 with fail
      try simp (config := {failIfUnchanged := false}) only [List.append_eq, List.cons_append, List.nil_append]
      go_region_held3 (fun wy => wy.cell? ⟨w.heap.size, 2, none⟩ = some (.bool s.hasUser) ∧ wy.cell? ⟨w.heap.size, 3, none⟩ = some (.int .u32 s.user)) (first | (refine ⟨(OwnL.trk (OwnL.belowm oY b2 hlt) ?_).2.1 2, (OwnL.trk (OwnL.belowm oY b2 hlt) ?_).2.1 3⟩ <;> ((with_reducible (repeat' (first | exact Below.refl _ _ | assumption | apply bl_alloc | apply bl_drewN | apply bl_drew | refine bl_set ?_ ?_ _))) <;> (first | done | (simp; done) | (simp; omega) | omega))) | (refine ⟨(OwnL.trk oY ?_).2.1 2, (OwnL.trk oY ?_).2.1 3⟩ <;> ((with_reducible (repeat' (first | exact Below.refl _ _ | assumption | apply bl_alloc | apply bl_drewN | apply bl_drew | refine bl_set ?_ ?_ _))) <;> (first | done | (simp; done) | (simp; omega) | omega))) | (refine ⟨(OwnL.trk oX1 ?_).2.1 2, (OwnL.trk oX1 ?_).2.1 3⟩ <;> ((with_reducible (repeat' (first | exact Below.refl _ _ | assumption | apply bl_alloc | apply bl_drewN | apply bl_drew | refine bl_set ?_ ?_ _))) <;> (first | done | (simp; done) | (simp; omega) | omega)))) (first
        | (go_at_call 25; refine Calls.mono (HP1.out _) ?_; rintro e wa ⟨va, rfl, oa, ba⟩; (have B1 : Below w1.heap.size w1 wa := bl_then (by (with_reducible (repeat' (first | exact Below.refl _ _ | assumption | apply bl_alloc | apply bl_drewN | apply bl_drew | refine bl_set ?_ ?_ _))) <;> (first | done | (simp; done) | (simp; omega) | omega)) ba); (have oY := oX1.trk B1); (have p1 := HK1.out.below B1); (have z1 := B1.size))
        | (go_at_call 24; refine Calls.mono (RefOption s.hasUser p1 oa (by omega) (fun p q h1 h2 => (OwnB.apart HK1.out oa (by first | exact Nat.le_refl _ | (simp; done) | (simp; omega)) h2 h1).symm) (by rw [put4_length]; omega) (by rw [put4_length]; omega) (by have := HL.out; simp only [List.length_append, List.length_nil]; omega)) ?_; rintro e w2 ⟨v2, rfl, o2, b2⟩))
      have HK2 := Lib.hid o2
      have oX2 := OwnL.belowm oY b2 (by omega)
      have HB2 : Below w.heap.size w w2 := (HB1.trans (B1.mono (by omega))).trans (b2.mono (by omega))
      have hz2 : wc.heap.size ≤ w2.heap.size := by have := b2.size; omega
      clear o2 b2 oY p1 z1 B1 ba oa oX1 HK1
      go_upto_region 7 with fail
      try simp (config := {failIfUnchanged := false}) only [List.append_eq, List.cons_append, List.nil_append]
      go_region_held3 (fun wy => wy.cell? ⟨w.heap.size, 4, none⟩ = some (.bool s.hasGroup) ∧ wy.cell? ⟨w.heap.size, 5, none⟩ = some (.int .u32 s.group)) (first | (refine ⟨(OwnL.trk (OwnL.belowm oY b3 hlt) ?_).2.1 4, (OwnL.trk (OwnL.belowm oY b3 hlt) ?_).2.1 5⟩ <;> ((with_reducible (repeat' (first | exact Below.refl _ _ | assumption | apply bl_alloc | apply bl_drewN | apply bl_drew | refine bl_set ?_ ?_ _))) <;> (first | done | (simp; done) | (simp; omega) | omega))) | (refine ⟨(OwnL.trk oY ?_).2.1 4, (OwnL.trk oY ?_).2.1 5⟩ <;> ((with_reducible (repeat' (first | exact Below.refl _ _ | assumption | apply bl_alloc | apply bl_drewN | apply bl_drew | refine bl_set ?_ ?_ _))) <;> (first | done | (simp; done) | (simp; omega) | omega))) | (refine ⟨(OwnL.trk oX2 ?_).2.1 4, (OwnL.trk oX2 ?_).2.1 5⟩ <;> ((with_reducible (repeat' (first | exact Below.refl _ _ | assumption | apply bl_alloc | apply bl_drewN | apply bl_drew | refine bl_set ?_ ?_ _))) <;> (first | done | (simp; done) | (simp; omega) | omega)))) (first
        | (go_at_call 25; refine Calls.mono (HP2.out _) ?_; rintro e wa ⟨va, rfl, oa, ba⟩; (have B1 : Below w2.heap.size w2 wa := bl_then (by (with_reducible (repeat' (first | exact Below.refl _ _ | assumption | apply bl_alloc | apply bl_drewN | apply bl_drew | refine bl_set ?_ ?_ _))) <;> (first | done | (simp; done) | (simp; omega) | omega)) ba); (have oY := oX2.trk B1); (have p1 := HK2.out.below B1); (have z1 := B1.size))
        | (go_at_call 24; refine Calls.mono (RefOption s.hasGroup p1 oa (by omega) (fun p q h1 h2 => (OwnB.apart HK2.out oa (by first | exact Nat.le_refl _ | (simp; done) | (simp; omega)) h2 h1).symm) (by rw [put4_length]; omega) (by rw [put4_length]; omega) (by have := HL.out; simp only [List.length_append, List.length_nil]; omega)) ?_; rintro e w3 ⟨v3, rfl, o3, b3⟩))
      have HK3 := Lib.hid o3
      have oX3 := OwnL.belowm oY b3 (by omega)
      have HB3 : Below w.heap.size w w3 := (HB2.trans (B1.mono (by omega))).trans (b3.mono (by omega))
      have hz3 : wc.heap.size ≤ w3.heap.size := by have := b3.size; omega
      clear o3 b3 oY p1 z1 B1 ba oa oX2 HK2
      go_upto_region 8 with fail
      try simp (config := {failIfUnchanged := false}) only [List.append_eq, List.cons_append, List.nil_append]
      go_region_held3 (fun wy => wy.cell? ⟨w.heap.size, 6, none⟩ = some (.bool s.hasSize) ∧ wy.cell? ⟨w.heap.size, 7, none⟩ = some (.int .u64 s.size)) (first | (refine ⟨(OwnL.trk (OwnL.belowm oY b4 hlt) ?_).2.1 6, (OwnL.trk (OwnL.belowm oY b4 hlt) ?_).2.1 7⟩ <;> ((with_reducible (repeat' (first | exact Below.refl _ _ | assumption | apply bl_alloc | apply bl_drewN | apply bl_drew | refine bl_set ?_ ?_ _))) <;> (first | done | (simp; done) | (simp; omega) | omega))) | (refine ⟨(OwnL.trk oY ?_).2.1 6, (OwnL.trk oY ?_).2.1 7⟩ <;> ((with_reducible (repeat' (first | exact Below.refl _ _ | assumption | apply bl_alloc | apply bl_drewN | apply bl_drew | refine bl_set ?_ ?_ _))) <;> (first | done | (simp; done) | (simp; omega) | omega))) | (refine ⟨(OwnL.trk oX3 ?_).2.1 6, (OwnL.trk oX3 ?_).2.1 7⟩ <;> ((with_reducible (repeat' (first | exact Below.refl _ _ | assumption | apply bl_alloc | apply bl_drewN | apply bl_drew | refine bl_set ?_ ?_ _))) <;> (first | done | (simp; done) | (simp; omega) | omega)))) (first
        | (go_at_call 26; refine Calls.mono (HP3.out _) ?_; rintro e wa ⟨va, rfl, oa, ba⟩; (have B1 : Below w3.heap.size w3 wa := bl_then (by (with_reducible (repeat' (first | exact Below.refl _ _ | assumption | apply bl_alloc | apply bl_drewN | apply bl_drew | refine bl_set ?_ ?_ _))) <;> (first | done | (simp; done) | (simp; omega) | omega)) ba); (have oY := oX3.trk B1); (have p1 := HK3.out.below B1); (have z1 := B1.size))
        | (go_at_call 24; refine Calls.mono (RefOption s.hasSize p1 oa (by omega) (fun p q h1 h2 => (OwnB.apart HK3.out oa (by first | exact Nat.le_refl _ | (simp; done) | (simp; omega)) h2 h1).symm) (by rw [put8_length]; omega) (by rw [put8_length]; omega) (by have := HL.out; simp only [List.length_append, List.length_nil]; omega)) ?_; rintro e w4 ⟨v4, rfl, o4, b4⟩))
      have HK4 := Lib.hid o4
      have oX4 := OwnL.belowm oY b4 (by omega)
      have HB4 : Below w.heap.size w w4 := (HB3.trans (B1.mono (by omega))).trans (b4.mono (by omega))
      have hz4 : wc.heap.size ≤ w4.heap.size := by have := b4.size; omega
      clear o4 b4 oY p1 z1 B1 ba oa oX3 HK3
      have hlt4 : w.heap.size < w4.heap.size := by omega
      have hr1 : s.readHow < 4294967296 := by have := HS.out; unfold St.wf at this; omega
      have hr2 : s.read.wf := by have := HS.out; unfold St.wf at this; exact this.2.2.2.2.2.1
      have hw1 : s.writeHow < 4294967296 := by have := HS.out; unfold St.wf at this; omega
      have hw2 : s.write.wf := by have := HS.out; unfold St.wf at this; exact this.2.2.2.2.2.2.2
      have HR1 := Lib.hid hr1
      have HR2 := Lib.hid hr2
      have HW1 := Lib.hid hw1
      have HW2 := Lib.hid hw2
      have HL4 : ([] ++ optB s.hasMode (put4 s.mode) ++ optB s.hasUser (put4 s.user) ++ optB s.hasGroup (put4 s.group) ++ optB s.hasSize (put8 s.size)).length ≤ 40 := by
        have := HL.out; simp only [List.length_append, List.length_nil]; omega
      have HL5 : ([] ++ optB s.hasMode (put4 s.mode) ++ optB s.hasUser (put4 s.user) ++ optB s.hasGroup (put4 s.group) ++ optB s.hasSize (put8 s.size) ++ howB s.readHow s.read).length ≤ 60 := by
        have := HL.out; simp only [List.length_append, List.length_nil]; omega
      have HQ4 := Lib.hid HL4
      have HQ5 := Lib.hid HL5
      have HE : putSt s = [] ++ optB s.hasMode (put4 s.mode) ++ optB s.hasUser (put4 s.user) ++ optB s.hasGroup (put4 s.group) ++ optB s.hasSize (put8 s.size) ++ howB s.readHow s.read ++ howB s.writeHow s.write := by
        unfold putSt; simp only [List.append_assoc, List.nil_append]
      have HEE := Lib.hid HE
      clear hr1 hr2 hw1 hw2 HL4 HL5 HE
      have h4 := oX4.2.1
      go_wp2_with (go_at_call 27; first
        | ((with_reducible refine Calls.mono (RefHow s.readHow s.read HR1.out HR2.out HK4.out (by omega) (Nat.le_trans HQ4.out (by decide))) ?_); rintro e w5 ⟨v5, rfl, o5, b5⟩; (have oX5 := OwnL.belowm oX4 b5 hlt); (have h5 := oX5.2.1); (have z5 := b5.size); (have hlt5 : w.heap.size < w5.heap.size := by omega))
        | ((with_reducible refine Calls.mono (RefHow s.writeHow s.write HW1.out HW2.out o5 (by omega) (Nat.le_trans HQ5.out (by decide))) ?_); rintro e w6 ⟨v6, rfl, o6, b6⟩))
      rw [hb, if_neg (by decide)] at hr
      subst hr
      refine bodyPost_ret (v := .tuple #[_, _]) (by simp [results, Tryd.results9, go_sem]; rfl) rfl ⟨(HB4.trans (b5.mono (by omega))).trans (b6.mono (by omega)), .inl ⟨putSt s, _, rfl, rfl, ?_⟩⟩
      rw [HEE.out]
      exact o6.mono (by omega)
end Go.Proofs.YtkaapdnjlmceoaaDoor
namespace Go.Proofs.YtkaapdnjlmceoaaDoor
open Go.RowKit
set_option maxRecDepth 100000 in
set_option maxHeartbeats 4000000 in
theorem LAttrsPutsSet {a : St} {w : World} (ha : a.wf) : Calls Tryd.prog 4 #[eSet a] w fun e w' => e = .returned (.bool true) ∧ Below w.heap.size w w' := by
  have HP := Lib.hid (fun w => PutSet_any (w := w) ha)
  have HR := Lib.hid (fun w => RefPutSet (w := w) ha)
  have hl : (okB (rSet a)).length ≤ 1099511627000 := by
    rw [rSet_if]
    split
    · rw [okB, List.length_nil]; omega
    · rw [okB]; exact Nat.le_trans (putSt_len a) (by decide)
  clear ha
  generalize rSet a = r at HP HR hl
  simp only [eSet, St.cells] at HP HR ⊢
  go_enter Tryd.func4, Tryd.ntmps4
  have oA := OwnL.made' w [.bool a.hasMode, .int .u32 a.mode, .bool a.hasUser, .int .u32 a.user, .bool a.hasGroup, .int .u32 a.group, .bool a.hasSize, .int .u64 a.size, .int .u32 a.readHow, .int .u32 a.read.sec, .int .u32 a.read.nano, .int .u32 a.writeHow, .int .u32 a.write.sec, .int .u32 a.write.nano] 37
  have hB : Below w.heap.size w (w.alloc (.cells #[.bool a.hasMode, .int .u32 a.mode, .bool a.hasUser, .int .u32 a.user, .bool a.hasGroup, .int .u32 a.group, .bool a.hasSize, .int .u64 a.size, .int .u32 a.readHow, .int .u32 a.read.sec, .int .u32 a.read.nano, .int .u32 a.writeHow, .int .u32 a.write.sec, .int .u32 a.write.nano] 37)) := by (with_reducible (repeat' (first | exact Below.refl _ _ | assumption | apply bl_alloc | apply bl_drewN | apply bl_drew | refine bl_set ?_ ?_ _))) <;> (first | done | (simp; done) | (simp; omega) | omega)
  go_wp2_with (first
    | (refine wpList_load_own (by kernel_rfl) 37 _ rfl rfl oA _ Tryd.underlying37 rfl (by kernel_rfl) ?_)
    | (go_at_call 8; refine Calls.mono (HP.out _) ?_; intro e w1 hp; obtain ⟨v1, rfl, o1, b1⟩ := hp.flat; (have oA := oA.trk b1); (have o2 := o1.mono hB.size); (have hB : Below w.heap.size w w1 := bl_then hB b1);
        first | ((have hne := fun p q => OwnB.apart (p := p) (q := q) oX o1 (Nat.le_refl _)); (have oX := oX.below b1); (have oY := o2); clear o1 o2 hp b1) | ((have oX := o2); clear o1 o2 hp b1))
    | (go_at_call 9; refine Calls.mono (HR.out _) ?_; intro e w1 hp; obtain ⟨v1, rfl, o1, b1⟩ := hp.flat; (have oZ := o1.mono hB.size); (have oX := oX.below b1); (have oY := oY.below b1); (have hB : Below w.heap.size w w1 := bl_then hB b1); clear o1 hp b1)
    | (go_at_call 7; refine Calls.mono (two_any (m := w.heap.size) oX oY oZ hl hB.size hne) ?_; rintro e w5 ⟨rfl, b5⟩))
  go_ret
  exact ⟨by simp, hB.trans b5⟩
end Go.Proofs.YtkaapdnjlmceoaaDoor
namespace Go.Proofs.YtkaapdnjlmceoaaDoor
open Go.ChangeShapes Go.WideShapes Go.ChangeAt Go.RowKit

set_option maxRecDepth 100000 in
theorem attrsPutsSet_lifted (os : Os) (started : os.Started) (H : Type) (enc : TypeId × Value → H) :
    ReturnsInHanded {} Tryd.checked os 4 .any (fun w args => (Rows.attrsPutsSetSpec.pre enc Tryd.prog Tryd.f4 Rows.attrsPutsSetRow.domain false w args ∧ laidMetH Tryd.prog Rows.attrsPutsSetRow.laid w) ∧ sizedMet enc Tryd.prog Tryd.f4 (OpenSpec.ofChange Rows.attrsPutsSetSpec) false w args)
      (Rows.attrsPutsSetSpec.post enc Tryd.prog Tryd.f4 false true false false) := by
  refine returnsInHanded_of_change_and (C := Tryd.checked) (X := fun w _ => laidMetH Tryd.prog Rows.attrsPutsSetRow.laid w) (fun _ _ _ hh h => h.of_heap hh) own started (by kernel_rfl) Tryd.func4
    (ChangeSpec.witness_shaped (enc := enc) (C := Tryd.checked) (os := os) (X := fun w _ => laidMetH Tryd.prog Rows.attrsPutsSetRow.laid w) false (World.laidAll Tryd.prog os Rows.attrsPutsSetRow.laid) #[.agg #[.bool false, .int .u32 0, .bool false, .int .u32 0, .bool false, .int .u32 0, .bool false, .int .u64 0, .int .u32 0, .int .u32 0, .int .u32 0, .int .u32 0, .int .u32 0, .int .u32 0]] 8 (World.laidAll_os _ _ _)
      (World.shaped_of_ZipB (by kernel_rfl) (by kernel_rfl)) (by kernel_rfl) (by kernel_rfl) (by kernel_rfl)
      (by rw [MakeChecks.laidMetH_plain _ _ _ (by kernel_rfl)]; exact laidMet_laidAll _ (by kernel_rfl) (by kernel_rfl))) ?_
  intro W base args ds gs before hval0 hW hcnd _ _ _
  have hval : ∀ (j : Nat) t v, Tryd.f4.params[j]? = some t → args[j]? = some v → Value.okWide Tryd.prog W .any base t v := hval0
  have hW' := hW
  obtain ⟨p, q, hA0, hV, rfl, hfz, hnd⟩ := hW
  have hA : DataW.TrodAll enc Tryd.prog W 0 (fun _ => true) true Tryd.f4.params.toList args.toList ds p := hA0
  rw [Tryd.params4] at hA hval
  obtain ⟨v0, vs0, d0, ds0, p0, q0, hargs, rfl, rfl, h0, r0⟩ := trodAll_cons hA
  obtain ⟨rfl, rfl, rfl⟩ := trodAll_nil r0
  obtain rfl : args = #[v0] := by cases args; simp_all
  obtain ⟨rfl, rfl⟩ := trodVars_none hV
  have k0 := h0
  have lt0 : ∀ x ∈ p0, x.block < W.heap.size := by obtain ⟨m, hm⟩ := k0; exact DataW.trod_lt m _ _ _ hm
  obtain ⟨a0, w0, rfl⟩ := open_set (hval 0 37 v0 rfl rfl) h0
  clear hA0 hval0
  refine (LAttrsPutsSet w0).mono fun e W' ⟨he, bel⟩ => ?_
  subst he
  exact ⟨_, rfl, _, _, _, [], _, [], hW', trodAll_mk1 (shut_bool Tryd.underlying4 _), (trodAll_cons_mk (Below.trod laidOut (by kernel_rfl) (of_decide_eq_true (by kernel_rfl)) k0 bel lt0) trodAll_mk0), rfl, bel.frame _, fun h => by cases h⟩

theorem attrsPutsSet_over : Rows.attrsPutsSetRow.holds Tryd.pinned (OpenSpec.ofChange Rows.attrsPutsSetSpec) :=
  OpenClaim.holds_of_wide 4 Tryd.f4 rfl rfl rfl rfl rfl rfl rfl ⟨rfl, rfl, rfl, rfl, rfl⟩ rfl rfl rfl rfl rfl (by kernel_rfl) Tryd.func4 (by kernel_rfl)
    (of_decide_eq_true (by kernel_rfl)) (by unfold Func.isWrapper; first | (rw [if_pos (by decide +kernel)]; kernel_rfl) | (rw [if_neg (by decide +kernel)]; exact ⟨rfl, rfl⟩))
    (fun os started H enc _ => attrsPutsSet_lifted os started H enc)

theorem attrsPutsSet_proved : Rows.AttrsPutsSetSaid := attrsPutsSet_over
#print axioms attrsPutsSet_proved
theorem attrsPutsSet_card : Rows.AttrsPutsSetCardSaid :=
  Claim7.holds_tied_plain_at .later [] [.data, .data, .data] true (true, "6bb62357a28197b59b976bca66b72ed029fba2d1ae7eb6e8182d97a79e089ff7") true attrsPutsSet_proved (fun _ h => by cases h) (by kernel_rfl) (fun _ h => by cases h) attrsPutsSet_row_tie rfl ⟨rfl, rfl⟩ (by kernel_rfl) rfl
    (fun f fn hf hfn => by
      obtain rfl : f = 4 := Option.some.inj ((show Tryd.prog.funcNamed "wharfinger/wharfingerlaw10.AttrsPutsSet" = some 4 by kernel_rfl).symm.trans hf) |>.symm
      obtain rfl : fn = Tryd.f4 := (Option.some.inj (Tryd.func4.symm.trans hfn)).symm
      exact ⟨by kernel_rfl, fun j t ht => by
        rw [Tryd.params4] at ht
        have hm : t ∈ [37] := by simpa using Array.mem_of_getElem? ht
        have hall : ([37].all fun u => !Tryd.prog.wantsStandIn u) = true := by kernel_rfl
        exact (show Tryd.prog.wantsStandIn t = false by simpa using List.all_eq_true.1 hall t hm)⟩)
    (by kernel_rfl)
#print axioms attrsPutsSet_card
end Go.Proofs.YtkaapdnjlmceoaaDoor

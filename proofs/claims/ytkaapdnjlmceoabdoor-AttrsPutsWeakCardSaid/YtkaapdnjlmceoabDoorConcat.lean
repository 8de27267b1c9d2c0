/- slices.Grow of nil, slices.Concat of two slices of bytes. -/
import Derived.Test.YtkaapdnjlmceoabDoorAppend
import Derived.Lib.AppendZeros
import Derived.LoopN
set_option linter.unusedVariables false
set_option linter.unusedSimpArgs false
namespace Go.Proofs.YtkaapdnjlmceoabDoor
open Go.RowKit
set_option maxRecDepth 100000 in
set_option maxHeartbeats 2000000 in
theorem Grow_nil (n : Nat) (hn : 0 < n) (hn2 : n ≤ 100000) (w : World) :
    Calls Tryd.prog 59 #[.slice none 0 0, .int .i64 n] w fun e w' => ∃ v, e = .returned v ∧ OwnB w' w.heap.size v [] ∧ Below w.heap.size w w' := by
  have hi := info_u8
  obtain ⟨i0, hi, hz⟩ : ∃ i0, Tryd.prog.info? 5 = some i0 ∧ (i0.zero, i0.size, i0.bytes) = (some (.int .u8 0), 1, 1) := by
    cases he : Tryd.prog.info? 5 with
    | none => rw [he] at hi; cases hi
    | some i0 => rw [he] at hi; exact ⟨i0, rfl, by simpa using hi⟩
  simp only [Prod.mk.injEq] at hz
  have hr := fun ty => Lib.run_append_nil_zeros w 31 3 ty 5 i0 (.int .u8 0) .i64 .i64 Tryd.underlying31 Tryd.underlying3 hi hz.1 n hn (by rw [hz.2.1]; omega) (by omega) (by rw [hz.2.2]; omega)
  have hge := grownCap_ge w n 0 5
  have hle := grownCap_le_maxLen w n 0 5 (by unfold maxLen; omega)
  obtain ⟨G, hG⟩ : ∃ G, G = grownCap w n 0 5 := ⟨_, rfl⟩
  have hsz : (Builtin.zeroCells (Value.int .u8 0).cells n ++ Builtin.zeroCells (Value.int .u8 0).cells (G - n)).size = G := by
    rw [Array.size_append, size_zeroCells, size_zeroCells]; show n * 1 + (G - n) * 1 = G; omega
  rw [← hG] at hr hge hle
  obtain ⟨cur, hcur⟩ : ∃ cur, Builtin.zeroCells (Value.int .u8 0).cells n ++ Builtin.zeroCells (Value.int .u8 0).cells (G - n) = cur := ⟨_, rfl⟩
  rw [hcur] at hr hsz
  have HS := Lib.hid hsz; have HL := Lib.hid hle
  simp only [maxLen] at hle
  clear hG hcur hi hz hsz
  go_enter Tryd.func59, Tryd.ntmps59
  go_wp2_with (at_builtin; refine Lib.wpList_append_run _ rfl _ _ _ _ rfl _ _ rfl rfl _ _ (hr _) ?_)
  go_ret
  refine ⟨_, rfl, ⟨rfl, .inr ⟨w.heap.size, G, cur, rfl, Nat.le_refl _, heap_alloc_new _ _, Nat.zero_le _, HL.out, by rw [HS.out]; simp, by simp [u8s]⟩⟩, by (with_reducible (repeat' (first | exact Below.refl _ _ | assumption | apply bl_alloc | apply bl_drewN | apply bl_drew | refine bl_set ?_ ?_ _))) <;> (first | done | (simp; done) | (simp; omega) | omega)⟩
theorem w64_one (n1 : Nat) (l1 : n1 ≤ 50000) : wrap64 (n1 : Int) = n1 := by unfold wrap64; omega
theorem w64_two (n1 n2 : Nat) (l1 : n1 ≤ 50000) (l2 : n2 ≤ 50000) : wrap64 ((n1 : Int) + n2) = ((n1 + n2 : Nat) : Int) := by unfold wrap64; omega
set_option maxRecDepth 100000 in
set_option maxHeartbeats 2000000 in
theorem Concat_two (g : Nat) (v1 v2 : Value) (b1 b2 : Nat) (bs1 bs2 : List UInt8) (w : World) (hg : g < w.heap.size) (h1 : w.cell? ⟨g, 0, none⟩ = some v1) (h2 : w.cell? ⟨g, 1, none⟩ = some v2) (o1 : OwnB w b1 v1 bs1) (o2 : OwnB w b2 v2 bs2)
    (p1 : 0 < bs1.length) (p2 : 0 < bs2.length) (l1 : bs1.length ≤ 50000) (l2 : bs2.length ≤ 50000) :
    Calls Tryd.prog 25 #[.slice (some ⟨g, 0, none⟩) 2 2] w fun e w' => ∃ v, e = .returned v ∧ OwnB w' w.heap.size v (bs1 ++ bs2) ∧ Below w.heap.size w w' := by
  obtain ⟨g1, c1, rfl, hg1, hh1, hc1, hcc1, _⟩ := o1.slice p1
  obtain ⟨g2, c2, rfl, hg2, hh2, hc2, hcc2, _⟩ := o2.slice p2
  have P1 := Lib.hid p1; have P2 := Lib.hid p2; have L1 := Lib.hid l1; have L2 := Lib.hid l2
  have O1 := Lib.hid o1; have O2 := Lib.hid o2
  obtain ⟨n1, hn1⟩ : ∃ n1, bs1.length = n1 := ⟨_, rfl⟩
  obtain ⟨n2, hn2⟩ : ∃ n2, bs2.length = n2 := ⟨_, rfl⟩
  rw [hn1] at h1 O1 p1 l1 hc1; rw [hn2] at h2 O2 p2 l2 hc2
  have N1 := Lib.hid hn1; have N2 := Lib.hid hn2
  clear hn1 hn2 o1 o2 hg1 hg2 hh1 hh2 hc1 hc2 hcc1 hcc2
  have hw1 := w64_one n1 l1
  have hw2 := w64_two n1 n2 l1 l2
  have hneg : ¬ (((n1 + n2 : Nat) : Int) < 0) := by omega
  have hneg1 : ¬ ((n1 : Int) < 0) := by omega
  have hG : ∀ w, Calls Tryd.prog 59 #[.slice none 0 0, .int .i64 ((n1 : Int) + n2)] w fun e w' => ∃ v, e = .returned v ∧ OwnB w' w.heap.size v [] ∧ Below w.heap.size w w' := fun w => by
    have h := Grow_nil (n1 + n2) (by omega) (by omega) w
    simpa only [Int.natCast_add] using h
  have HG := Lib.hid hG; clear hG
  go_enter Tryd.func25, Tryd.ntmps25
  go_wp2_with fail
  refine wp_loop_rounds 3 ?_
  rw [rounds_succ]; go_wp2_with fail
  rw [rounds_succ]; go_wp2_with fail
  rw [rounds_succ]; go_wp2_with fail
  refine (HG.out _).mono ?_
  rintro e w1 ⟨v, rfl, ov, b1⟩
  have O1 := Lib.hid (O1.out.below b1)
  have hc0 : w1.cell? ⟨g, 0, none⟩ = _ := (b1.cell (p := ⟨g, 0, none⟩) hg).trans h1
  have hc1 : w1.cell? ⟨g, 1, none⟩ = _ := (b1.cell (p := ⟨g, 1, none⟩) hg).trans h2
  have hgl : g < w1.heap.size := Nat.lt_of_lt_of_le hg b1.size
  have hz := b1.size
  clear hw1 hw2 hneg hneg1 h1 h2
  go_wp2_with fail
  refine wp_loop_rounds 3 ?_
  rw [rounds_succ]
  go_wp2_with (at_builtin; refine wp_append_bytes rfl _ _ rfl rfl rfl ov O1.out P1.out (by have := L1.out; simp; omega) hz ?_; intro v1 w2 ov1 b2)
  have hc2 : w2.cell? ⟨g, 1, none⟩ = _ := (b2.cell (p := ⟨g, 1, none⟩) hg).trans hc1
  have hz2 : w.heap.size ≤ w2.heap.size := Nat.le_trans hz b2.size
  have O2 := Lib.hid (O2.out.below (b1.trans b2))
  rw [rounds_succ]
  go_wp2_with (at_builtin; refine wp_append_bytes rfl _ _ rfl rfl rfl ov1 O2.out P2.out (by have := L1.out; have := L2.out; simp; omega) hz2 ?_; intro v2 w3 ov2 b3)
  rw [rounds_succ]
  go_wp2_with fail
  go_ret
  exact ⟨_, rfl, by simpa using ov2, (b1.trans b2).trans b3⟩
end Go.Proofs.YtkaapdnjlmceoabDoor

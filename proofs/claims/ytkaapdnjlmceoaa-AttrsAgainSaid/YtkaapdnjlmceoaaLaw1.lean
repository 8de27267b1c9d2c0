/- The laws' helpers: Beyond, TwinBytes, LeftBytes, SameBytes. -/
import Derived.Test.YtkaapdnjlmceoaaAppend
import Derived.Deep.QuietTactic
import Derived.BigQuiet
set_option linter.unusedVariables false
set_option linter.unusedSimpArgs false
namespace Go.Proofs.Ytkaapdnjlmceoaa
open Go.RowKit
theorem OwnB.one (w : World) (x : UInt8) : OwnB (w.alloc (.cells #[.int .u8 x.toNat] 5)) w.heap.size (.slice (some ⟨w.heap.size, 0, none⟩) 1 1) [x] :=
  ⟨rfl, .inr ⟨w.heap.size, 1, _, rfl, Nat.le_refl _, heap_alloc_new _ _, Nat.le_refl _, by decide, rfl, rfl⟩⟩
theorem OwnB.slice' {w : World} {base m : Nat} {v : Value} {bs : List UInt8} (h : OwnB w base v bs) (hl : bs.length = m) (hp : 0 < m) :
    ∃ g cap, v = .slice (some ⟨g, 0, none⟩) m cap ∧ base ≤ g ∧ m ≤ cap ∧ cap ≤ 9223372036854775807 ∧ Bs w (some ⟨g, 0, none⟩) m bs := by
  subst hl
  obtain ⟨g, cap, rfl, hb, hg, h1, h2, hc⟩ := h.slice hp
  refine ⟨g, cap, rfl, hb, h1, h2, rfl, by omega, fun _ => ⟨g, 0, rfl, hg, fun j hj => ?_⟩⟩
  have := hc j (.int .u8 (bs.getD j 0).toNat) (by simp [u8s, List.getElem?_eq_getElem hj])
  rwa [Addr.add_lit] at this
section
variable {A B : Option Addr} {n cap cap2 : Nat} {xs ys : List UInt8} {w : World}
set_option maxRecDepth 100000 in
set_option maxHeartbeats 1000000 in
theorem Twin_any (hB : Bs w A n xs) (hc : n ≤ cap) (hm : n ≤ 1048576) :
    Calls Try.prog 14 #[.slice A n cap] w fun e w' => ∃ g c2, e = .returned (.slice (some ⟨g, 0, none⟩) n c2) ∧ n + 1 ≤ c2 ∧ c2 ≤ 9223372036854775807 ∧ w.heap.size ≤ g ∧ Bs w' (some ⟨g, 0, none⟩) (n + 1) (xs ++ [77]) ∧ Below w.heap.size w w' := by
  have HB := Lib.hid hB
  have hn := hB.2.1
  obtain ⟨i0, hi, hz0, hz1, hz2⟩ : ∃ i0, Try.prog.info? 5 = some i0 ∧ i0.zero = some (.int .u8 0) ∧ i0.size = 1 ∧ i0.bytes = 1 := by
    have hi := info_u8
    cases he : Try.prog.info? 5 with
    | none => rw [he] at hi; cases hi
    | some i0 => rw [he] at hi; simp at hi; exact ⟨i0, rfl, hi.1, hi.2.1, hi.2.2⟩
  have H0 := Lib.hid hi; have H1 := Lib.hid hz0; have H2 := Lib.hid hz1; have H3 := Lib.hid hz2
  clear hB hi hz0 hz1 hz2
  rcases Nat.eq_zero_or_pos n with h0 | hpos
  · subst h0
    have hx0 : xs = [] := List.eq_nil_of_length_eq_zero HB.out.1
    subst hx0
    go_enter Try.func14, Try.ntmps14
    go_wp2_with (at_make; refine wpList_make_own w rfl _ _ 22 rfl w.heap.size 5 i0 (.int .u8 0) 1 Try.underlying22 H0.out H1.out H2.out .i64 .i64 _ 1 rfl rfl (by omega) (by rw [H3.out]; omega) (by unfold maxLen; omega) (Nat.le_refl _) ?_; intro w1 o1 g1)
    go_loopw [3, 4] (fun v i wr => i = .int .i64 0 ∧ OwnB wr w.heap.size v [] ∧ Below w.heap.size w wr) (fun _ i _ => 0)
    case atStart => exact ⟨rfl, o1, ⟨g1.os, g1.tape, g1.output, g1.size, fun j hj => g1.block j hj (by simp)⟩⟩
    case round =>
      obtain ⟨rfl, ov, hb⟩ := hrel
      have hz := hb.size
      go_wp2_with (at_builtin; go_loud (refine wp_append_bytes rfl _ _ rfl rfl rfl (ov.alloc _) (OwnB.one _ 77) (by simp) (by simp) (by simp; omega) ?_; intro v' w3 o3 b3; obtain ⟨g, c2, rfl, hg, hc2, hc3, hB3⟩ := o3.slice' (m := 1) rfl (by omega)))
      go_ret
      exact ⟨g, c2, rfl, hc2, hc3, hg, hB3, (bl_alloc hb _).trans b3⟩
  · obtain ⟨b, off, rfl, hl, hcell⟩ := HB.out.2.2 hpos
    have HL := Lib.hid hl; have HCell := Lib.hid hcell
    clear hl hcell
    go_enter Try.func14, Try.ntmps14
    go_wp2_with (at_make; refine wpList_make_own w rfl _ _ 22 rfl w.heap.size 5 i0 (.int .u8 0) 1 Try.underlying22 H0.out H1.out H2.out .i64 .i64 _ (n + 1) rfl rfl (by omega) (by rw [H3.out]; omega) (by unfold maxLen; omega) (Nat.le_refl _) ?_; intro w1 o1 g1)
    go_loopw [3, 4] (fun v i wr => ∃ k : Nat, k ≤ n ∧ i = .int .i64 k ∧ OwnB wr w.heap.size v (xs.take k) ∧ Below w.heap.size w wr) (fun _ i _ => n - (intOf i).toNat)
    case atStart => exact ⟨0, by omega, rfl, o1, ⟨g1.os, g1.tape, g1.output, g1.size, fun j hj => g1.block j hj (by simp)⟩⟩
    case round =>
      obtain ⟨k, hk, rfl, ov, hb⟩ := hrel
      have hz := hb.size
      by_cases hlt : k < n
      · have hc := (hb.cell (p := ⟨b, off + k, none⟩) HL.out).trans (HCell.out k hlt)
        have HT := Lib.hid (List.take_succ_eq_append_getElem (l := xs) (i := k) (by rw [HB.out.1]; exact hlt))
        have HG := Lib.hid (show xs.getD k 0 = xs[k]'(by rw [HB.out.1]; exact hlt) by simp [List.getD, List.getElem?_eq_getElem (show k < xs.length by rw [HB.out.1]; exact hlt)])
        have HN := Lib.hid (List.length_take_le k xs)
        go_wp2_with (at_builtin; refine wp_append_bytes rfl _ _ rfl rfl rfl (ov.alloc _) (OwnB.one _ _) (by simp) (by have := HN.out; simp; omega) (by simp; omega) ?_; intro v' w3 o3 b3)
        go_roundw
        case rel => exact ⟨k + 1, by omega, by go_num, by rw [HT.out, ← HG.out]; exact o3, (bl_alloc hb _).trans b3⟩
        case measure => simp [intOf]; omega
      · obtain rfl : k = n := by omega
        have HT := Lib.hid (List.take_of_length_le (show xs.length ≤ k by rw [HB.out.1]; exact Nat.le_refl _))
        have HN := Lib.hid HB.out.1
        go_wp2_with (at_builtin; go_loud (refine wp_append_bytes rfl _ _ rfl rfl rfl (ov.alloc _) (OwnB.one _ 77) (by simp) (by rw [HT.out, HN.out]; simp; omega) (by simp; omega) ?_; intro v' w3 o3 b3; rw [HT.out] at o3; obtain ⟨g, c2, rfl, hg, hc2, hc3, hB3⟩ := o3.slice' (m := k + 1) (by rw [List.length_append, HN.out]; rfl) (by omega)))
        go_ret
        exact ⟨g, c2, rfl, hc2, hc3, hg, hB3, (bl_alloc hb _).trans b3⟩
set_option maxRecDepth 100000 in
set_option maxHeartbeats 1000000 in
theorem Left_any {g : Nat} (hT : Bs w (some ⟨g, 0, none⟩) (n + 1) (xs ++ [77])) (hB : Bs w A n xs) (hc : n ≤ cap) (hc2 : n + 1 ≤ cap2) (hm : cap2 ≤ 9223372036854775807) :
    Calls Try.prog 17 #[.slice (some ⟨g, 0, none⟩) n cap2, .slice A n cap] w fun e w' => e = .returned (.bool true) ∧ Below w.heap.size w w' := by
  have hn := hB.2.1
  have HB := Lib.hid hB; have HT := Lib.hid hT
  have hd : ¬ cap2 ≤ n := by omega
  have hlast : w.cell? ⟨g, n, none⟩ = some (.int .u8 77) ∧ g < w.heap.size := by
    obtain ⟨b, off, e, hl, hcell⟩ := hT.2.2 (by omega)
    injection e with e; injection e with e1 e2 e3; subst e1; subst e2
    have := hcell n (by omega)
    rw [Nat.zero_add] at this
    rw [this]
    refine ⟨?_, hl⟩
    simp [List.getD, List.getElem?_append_right (show xs.length ≤ n by rw [hB.1]; exact Nat.le_refl _), hB.1]
  obtain ⟨hlast, hgl⟩ := hlast
  have HLast := Lib.hid hlast; have HGl := Lib.hid hgl
  clear hB hT hlast hgl
  rcases Nat.eq_zero_or_pos n with h0 | hpos
  · subst h0
    have hlast := HLast.out
    go_enter Try.func17, Try.ntmps17
    go_wp2_with fail
    go_loopw [5] (fun i wr => i = .int .i64 0 ∧ w = wr) (fun i _ => 0)
    case atStart => exact ⟨rfl, rfl⟩
    case round =>
      obtain ⟨rfl, rfl⟩ := hrel
      go_wp2_with fail
      go_ret
      exact ⟨rfl, by (with_reducible (repeat' (first | exact Below.refl _ _ | assumption | apply bl_alloc | apply bl_drewN | apply bl_drew | refine bl_set ?_ ?_ _))) <;> (first | done | (simp; done) | (simp; omega) | omega)⟩
  · obtain ⟨b, off, rfl, hl, hcell⟩ := HB.out.2.2 hpos
    have HL := Lib.hid hl; have HCell := Lib.hid hcell
    clear hl hcell
    go_enter Try.func17, Try.ntmps17
    go_wp2_with fail
    go_loopw [5] (fun i wr => ∃ k : Nat, k ≤ n ∧ i = .int .i64 k ∧ ∃ m, wr = w.drewN m) (fun i _ => n - (intOf i).toNat)
    case atStart => exact ⟨0, by omega, rfl, 0, rfl⟩
    case round =>
      obtain ⟨k, hk, rfl, m, rfl⟩ := hrel
      by_cases hlt : k < n
      · have hc1 := HCell.out k hlt
        have hc2 : w.cell? ⟨g, k, none⟩ = some (.int .u8 (xs.getD k 0).toNat) := by
          obtain ⟨b, off, e, hl, hcell⟩ := HT.out.2.2 (by omega)
          injection e with e; injection e with e1 e2 e3; subst e1; subst e2
          have := hcell k (by omega)
          rw [Nat.zero_add] at this
          rw [this]
          simp [List.getD, List.getElem?_append_left (show k < xs.length by rw [HB.out.1]; exact hlt)]
        generalize (xs.getD k 0).toNat = c at hc1 hc2
        go_wp2_with fail
        go_quiet (fail)
        go_wp2
        go_roundw
        case rel => exact ⟨k + 1, by omega, by go_num, _, rfl⟩
        case measure => simp [intOf]; omega
      · obtain rfl : k = n := by omega
        have hlast := HLast.out
        go_wp2_with fail
        go_ret
        exact ⟨rfl, by (with_reducible (repeat' (first | exact Below.refl _ _ | assumption | apply bl_alloc | apply bl_drewN | apply bl_drew | refine bl_set ?_ ?_ _))) <;> (first | done | (simp; done) | (simp; omega) | omega)⟩
set_option maxRecDepth 100000 in
set_option maxHeartbeats 1000000 in
theorem Beyond_one (g m : Nat) (hm : m ≤ 9223372036854775807) (h0 : w.cell? ⟨g, 0, none⟩ = some (.int .i64 m)) :
    Calls Try.prog 13 #[.slice (some ⟨g, 0, none⟩) 1 1] w fun e w' => e = .returned (.bool (decide (1048576 < m))) ∧ w = w' := by
  by_cases hb : 1048576 < m
  · have hd : decide ((1048576 : Int) < (m : Int)) = true := by simp; omega
    rw [decide_eq_true hb]
    go_enter Try.func13, Try.ntmps13
    go_wp2_with fail
    go_loop [3, 4] (fun v i => v = .int .i64 0 ∧ i = .int .i64 0) (fun _ i => 1 - (intOf i).toNat)
    case atStart => exact ⟨rfl, rfl⟩
    case round =>
      obtain ⟨rfl, rfl⟩ := hrel
      go_wp2
      go_ret
      exact ⟨rfl, rfl⟩
  · have hd : decide ((1048576 : Int) < (m : Int)) = false := by simp; omega
    rw [decide_eq_false hb]
    go_enter Try.func13, Try.ntmps13
    go_wp2_with fail
    go_loop [3, 4] (fun v i => (v = .int .i64 0 ∧ i = .int .i64 0) ∨ (v = .int .i64 m ∧ i = .int .i64 1)) (fun _ i => 1 - (intOf i).toNat)
    case atStart => exact .inl ⟨rfl, rfl⟩
    case round =>
      rcases hrel with ⟨rfl, rfl⟩ | ⟨rfl, rfl⟩
      · go_wp2
        go_round
        case rel => exact .inr ⟨by simp, rfl⟩
        case measure => simp [intOf]
      · go_wp2
        go_ret
        exact ⟨rfl, rfl⟩
end
end Go.Proofs.Ytkaapdnjlmceoaa

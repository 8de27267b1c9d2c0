/- The document's answer, layer 10: what is told of a node. -/
import Derived.Test.YtkaapdnjlmceoabDoorRef1
import Derived.Test.YtkaapdnjlmceoabDoorRAttrs
set_option linter.unusedVariables false
set_option linter.unusedSimpArgs false
namespace Go.Proofs.YtkaapdnjlmceoabDoor
open Go.RowKit
section
variable {A : Option Addr} {n cap k : Nat} {xs : List UInt8} {w : World}
end
def At.may (a : At) : Bool := kindOk a.kind a.mode && (a.read.ok && (a.write.ok && a.turn.ok))
theorem RCheck_w (s n : Int) (w : World) : Calls Tryd.prog 14 #[.agg #[.int .u32 s, .int .u32 n]] w fun e w' => e = .returned (.bool (decide (n < 1000000000))) ∧ w.alloc (.cells #[.int .u32 s, .int .u32 n] 25) = w' := by
  go_enter Tryd.func14, Tryd.ntmps14
  go_wp2
  go_ret
  exact ⟨rfl, rfl⟩
theorem RCheck_t (t : Tm) (w : World) : Calls Tryd.prog 14 #[.agg #[.int .u32 t.sec, .int .u32 t.nano]] w fun e w' => e = .returned (.bool t.ok) ∧ w.alloc (.cells #[.int .u32 t.sec, .int .u32 t.nano] 25) = w' :=
  (RCheck_w t.sec t.nano w).mono fun e w' h => ⟨by rw [h.1, Tm.ok]; exact congrArg _ (congrArg _ (decide_eq_decide.2 (by omega))), h.2⟩
set_option maxRecDepth 100000 in
set_option maxHeartbeats 4000000 in
theorem RMay (a : At) (w : World) :
    Calls Tryd.prog 13 #[eAttrs a] w fun e w' => e = .returned (.bool a.may) ∧ Below w.heap.size w w' := by
  unfold eAttrs At.cells
  rcases Bool.eq_false_or_eq_true a.read.ok with hr | hr <;> rcases Bool.eq_false_or_eq_true a.write.ok with hw | hw <;> rcases Bool.eq_false_or_eq_true a.turn.ok with ht | ht
  all_goals
    go_enter Tryd.func13, Tryd.ntmps13
    go_wp2_with (go_at_call 14; refine Calls.mono (RCheck_t _ _) ?_; rintro e w1 ⟨rfl, rfl⟩)
    all_goals
      refine bodyPost_ret (results_tmp rfl _ _ _) rfl ⟨?_, by (with_reducible (repeat' (first | exact Below.refl _ _ | assumption | apply bl_alloc | apply bl_drewN | apply bl_drew | refine bl_set ?_ ?_ _))) <;> (first | done | (simp; done) | (simp; omega) | omega)⟩
      refine congrArg Ending.returned (congrArg Value.bool ?_)
      simp [At.may, kindOk, *]
      try omega
/-! ### what is told of a node, as bytes -/
def At.head (a : At) : List Nat := [a.kind, a.mode, a.links, a.user, a.group]
def At.headB (a : At) (k : Nat) : List UInt8 := (a.head.take k).flatMap put4
theorem At.headB_length (a : At) (k : Nat) : (a.headB k).length ≤ 20 := by
  have : ∀ l : List Nat, (l.flatMap put4).length = 4 * l.length := fun l => by induction l with | nil => rfl | cons x l ih => simp [ih]; omega
  rw [At.headB, this, List.length_take]
  have : a.head.length = 5 := rfl
  omega
theorem At.headB_succ (a : At) (k : Nat) (h : k < 5) : a.headB (k + 1) = a.headB k ++ put4 (a.head.getD k 0) := by
  have h' : k < a.head.length := h
  rw [At.headB, At.headB, List.take_succ_eq_append_getElem h', List.flatMap_append]
  simp [List.getD, List.getElem?_eq_getElem h']
def Tm.wf (t : Tm) : Prop := t.sec < 4294967296 ∧ t.nano < 4294967296
def At.wf (a : At) : Prop := (∀ k, a.head.getD k 0 < 4294967296) ∧ a.size < 18446744073709551616 ∧ a.used < 18446744073709551616 ∧ a.id < 18446744073709551616 ∧ a.read.wf ∧ a.write.wf ∧ a.turn.wf
def putAt (a : At) : List UInt8 := a.headB 5 ++ put8 a.size ++ put8 a.used ++ put8 0 ++ put8 1 ++ put8 a.id ++ putTm a.read ++ putTm a.write ++ putTm a.turn
theorem putTm_length (t : Tm) : (putTm t).length = 8 := rfl
theorem RPutLong_0 (w : World) : Calls Tryd.prog 15 #[.int .u64 0] w fun e w' => ∃ v, e = .returned v ∧ OwnB w' w.heap.size v (put8 0) ∧ Below w.heap.size w w' := RPutLong_any 0 (by decide) w
theorem RPutLong_1 (w : World) : Calls Tryd.prog 15 #[.int .u64 1] w fun e w' => ∃ v, e = .returned v ∧ OwnB w' w.heap.size v (put8 1) ∧ Below w.heap.size w w' := RPutLong_any 1 (by decide) w
theorem RTPut_w (t : Tm) (h : t.wf) (w : World) : Calls Tryd.prog 16 #[.agg #[.int .u32 t.sec, .int .u32 t.nano]] w fun e w' => ∃ v, e = .returned v ∧ OwnB w' w.heap.size v (putTm t) ∧ Below w.heap.size w w' := RTPut_any t h.1 h.2 w
theorem keepA {base T : Nat} {w w' : World} {l : List Value} (hb : Below base w w') (hT : T < base) (h : ∀ o, w.cell? ⟨T, o, none⟩ = l[o]?) : ∀ o, w'.cell? ⟨T, o, none⟩ = l[o]? := fun o => (hb.cell (p := ⟨T, o, none⟩) hT).trans (h o)
set_option maxRecDepth 100000 in
set_option maxHeartbeats 4000000 in
theorem RBytes (a : At) (ha : a.wf) (w : World) :
    Calls Tryd.prog 18 #[eAttrs a] w fun e w' => ∃ v, e = .returned v ∧ OwnB w' w.heap.size v (putAt a) ∧ Below w.heap.size w w' := by
  have HA := Lib.hid ha; clear ha
  unfold eAttrs At.cells
  go_enter Tryd.func18, Tryd.ntmps18
  go_wp2_with (fail)
  go_loopw [3, 5] (fun v i wr => ∃ k : Nat, k ≤ 5 ∧ i = .int .i64 k ∧ OwnB wr (w.heap.size + 1 + 1) v (a.headB k) ∧ Below w.heap.size w wr ∧ w.heap.size + 1 + 1 ≤ wr.heap.size ∧
      (∀ o, wr.cell? ⟨w.heap.size, o, none⟩ = [Value.int .u32 a.kind, .int .u32 a.mode, .int .u32 a.links, .int .u32 a.user, .int .u32 a.group, .int .u64 a.size, .int .u64 a.used, .int .u64 a.id, .int .u32 a.read.sec, .int .u32 a.read.nano, .int .u32 a.write.sec, .int .u32 a.write.nano, .int .u32 a.turn.sec, .int .u32 a.turn.nano][o]?) ∧
      (∀ o, wr.cell? ⟨w.heap.size + 1, o, none⟩ = [Value.int .u32 a.kind, .int .u32 a.mode, .int .u32 a.links, .int .u32 a.user, .int .u32 a.group][o]?)) (fun _ i _ => 5 - (intOf i).toNat)
  case atStart => exact ⟨0, by omega, rfl, OwnB.nil _ _, by (with_reducible (repeat' (first | exact Below.refl _ _ | assumption | apply bl_alloc | apply bl_drewN | apply bl_drew | refine bl_set ?_ ?_ _))) <;> (first | done | (simp; done) | (simp; omega) | omega), by simp, fun o => by simp, fun o => by simp⟩
  case round =>
    obtain ⟨k, hk, rfl, ov, hb, hz, hA, hL⟩ := hrel
    by_cases hlt : k < 5
    · have hl : _ := hL k
      have hg : [Value.int .u32 a.kind, .int .u32 a.mode, .int .u32 a.links, .int .u32 a.user, .int .u32 a.group][k]? = some (.int .u32 (a.head.getD k 0)) := by
        match k, hlt with
        | 0, _ => rfl
        | 1, _ => rfl
        | 2, _ => rfl
        | 3, _ => rfl
        | 4, _ => rfl
      rw [hg] at hl
      have h32 := HA.out.1 k
      have HS := Lib.hid (a.headB_succ k hlt)
      have HLn := Lib.hid (a.headB_length k)
      have HA0 := Lib.hid hA; have HL0 := Lib.hid hL
      clear hg hA hL
      generalize a.head.getD k 0 = m at hl h32 HS
      go_wp2_with (first
        | (go_at_call 34; refine Calls.mono (RPut_any _ h32 _) ?_; rintro e w1 ⟨v1, rfl, o1, b1⟩; (have ov1 := ov.below b1); (have hz1 := b1.size); (have hb1 := hb.trans (b1.mono (by omega))))
        | (at_builtin; refine wp_append_bytes rfl _ _ rfl rfl rfl ov1 o1 (by simp) (by have := HLn.out; simp; omega) (by omega) ?_; intro v' w3 o3 b3))
      go_roundw
      case rel => exact ⟨k + 1, by omega, by go_num, by rw [HS.out]; exact o3, hb1.trans (b3.mono (by omega)), by have := b3.size; omega, keepA b3 (by omega) (keepA b1 (by omega) HA0.out), keepA b3 (by omega) (keepA b1 (by omega) HL0.out)⟩
      case measure => simp [intOf]; omega
    · obtain rfl : k = 5 := by omega
      have hlen := a.headB_length 5
      have HLn := Lib.hid hlen
      clear hlen hL
      have h5 := HA.out.2.1; have h6 := HA.out.2.2.1; have h7 := HA.out.2.2.2.1; have h8 := HA.out.2.2.2.2.1; have h10 := HA.out.2.2.2.2.2.1; have h12 := HA.out.2.2.2.2.2.2
      go_wp2_with (first
        | (go_at_call_of 15 (Value.int .u64 (a.size : Int)); refine Calls.mono (RPutLong_any _ h5 _) ?_; rintro e w1 ⟨v1, rfl, o1, b1⟩; (have ov1 := ov.below b1); (have hz := Nat.le_trans hz b1.size); (have hb := hb.trans (b1.mono (by omega))); (have hA := keepA (T := w.heap.size) b1 (by omega) hA))
        | (go_at_call_of 15 (Value.int .u64 (a.used : Int)); refine Calls.mono (RPutLong_any _ h6 _) ?_; rintro e w1 ⟨v1, rfl, o1, b1⟩; (have ov1 := ov.below b1); (have hz := Nat.le_trans hz b1.size); (have hb := hb.trans (b1.mono (by omega))); (have hA := keepA (T := w.heap.size) b1 (by omega) hA))
        | (go_at_call_of 15 (Value.int .u64 (a.id : Int)); refine Calls.mono (RPutLong_any _ h7 _) ?_; rintro e w1 ⟨v1, rfl, o1, b1⟩; (have ov1 := ov.below b1); (have hz := Nat.le_trans hz b1.size); (have hb := hb.trans (b1.mono (by omega))); (have hA := keepA (T := w.heap.size) b1 (by omega) hA))
        | (go_at_call_of 15 (Value.int .u64 (0 : Int)); refine Calls.mono (RPutLong_0 _) ?_; rintro e w1 ⟨v1, rfl, o1, b1⟩; (have ov1 := ov.below b1); (have hz := Nat.le_trans hz b1.size); (have hb := hb.trans (b1.mono (by omega))); (have hA := keepA (T := w.heap.size) b1 (by omega) hA))
        | (go_at_call_of 15 (Value.int .u64 (1 : Int)); refine Calls.mono (RPutLong_1 _) ?_; rintro e w1 ⟨v1, rfl, o1, b1⟩; (have ov1 := ov.below b1); (have hz := Nat.le_trans hz b1.size); (have hb := hb.trans (b1.mono (by omega))); (have hA := keepA (T := w.heap.size) b1 (by omega) hA))
        | (go_at_call_of 16 (Value.int .u32 (a.read.sec : Int)); refine Calls.mono (RTPut_w a.read h8 _) ?_; rintro e w1 ⟨v1, rfl, o1, b1⟩; (have ov1 := ov.below b1); (have hz := Nat.le_trans hz b1.size); (have hb := hb.trans (b1.mono (by omega))); (have hA := keepA (T := w.heap.size) b1 (by omega) hA))
        | (go_at_call_of 16 (Value.int .u32 (a.write.sec : Int)); refine Calls.mono (RTPut_w a.write h10 _) ?_; rintro e w1 ⟨v1, rfl, o1, b1⟩; (have ov1 := ov.below b1); (have hz := Nat.le_trans hz b1.size); (have hb := hb.trans (b1.mono (by omega))); (have hA := keepA (T := w.heap.size) b1 (by omega) hA))
        | (go_at_call_of 16 (Value.int .u32 (a.turn.sec : Int)); refine Calls.mono (RTPut_w a.turn h12 _) ?_; rintro e w1 ⟨v1, rfl, o1, b1⟩; (have ov1 := ov.below b1); (have hz := Nat.le_trans hz b1.size); (have hb := hb.trans (b1.mono (by omega))); (have hA := keepA (T := w.heap.size) b1 (by omega) hA))
        | (at_builtin; refine wp_append_bytes rfl _ _ rfl rfl rfl ov1 o1 (by simp [putTm_length]) (by have := HLn.out; simp [putTm_length]; omega) (by omega) ?_; intro v' w3 ov b3; (have hz := Nat.le_trans hz b3.size); (have hb := hb.trans (b3.mono (by omega))); (have hA := keepA (T := w.heap.size) b3 (by omega) hA)))
      go_ret
      exact ⟨_, rfl, ov.mono (by omega), hb⟩
end Go.Proofs.YtkaapdnjlmceoabDoor

/- attrs.PutWeak: the door. Printed by gen_dput.py. -/
import Derived.Test.YtkaapdnjlmceoabDoorDPutSet
import Derived.Deep.RegionHeldLaw
import Derived.Test.YtkaapdnjlmceoabDoorWkDef
set_option linter.unusedVariables false
set_option linter.unusedSimpArgs false
namespace Go.Proofs.YtkaapdnjlmceoabDoor
open Go.RowKit
def Wk.wf (k : Wk) : Prop := k.size < 18446744073709551616 ∧ k.write.wf ∧ k.turn.wf ∧ k.after.wf
/-- Is what was told ahead zero? -/
def zB (k : Wk) : Bool := decide (k.size = 0 ∧ k.write.sec = 0 ∧ k.write.nano = 0 ∧ k.turn.sec = 0 ∧ k.turn.nano = 0)
/-- The parts of what was told ahead and behind. -/
def weakL (k : Wk) : List (Except Int (List UInt8)) := [rOpt k.hasBefore (zB k) [.ok (put8 k.size), rTime k.write, rTime k.turn], rOpt k.hasAfter (k.after == At.zero) [rTold k.after]]
theorem opt_three {w : World} {r1 r2 r3 : Except Int (List UInt8)} (has zero : Bool) {v1 v2 v3 : Value} {t : TypeId} (h1 : Few r1) (h2 : Few r2) (h3 : Few r3) (g : GL w [(v1, r1), (v2, r2), (v3, r3)]) {cap : Nat} :
    Calls Tryd.prog 9 #[.bool has, .bool zero, .slice (some ⟨w.heap.size, 0, none⟩) 3 cap] (w.alloc (.cells #[v1, v2, v3] t)) (MakesPost (rOpt has zero [r1, r2, r3]) (w.alloc (.cells #[v1, v2, v3] t))) :=
  option_mk (n := 3) has zero rfl (by omega) (by omega) (fun x hx => by
    simp only [List.mem_cons, List.not_mem_nil, or_false] at hx; rcases hx with rfl | rfl | rfl
    · exact h1
    · exact h2
    · exact h3) (PartsB.new [(v1, r1), (v2, r2), (v3, r3)] g)
theorem few_weakL (k : Wk) : ∀ r ∈ weakL k, Few r := by
  intro r hr
  simp only [weakL, List.mem_cons, List.not_mem_nil, or_false] at hr
  rcases hr with rfl | rfl
  · refine few_opt _ _ _ (fun x hx c e => ?_) (by simp)
    simp only [List.mem_cons, List.not_mem_nil, or_false] at hx
    rcases hx with rfl | rfl | rfl
    · injection e with e; subst e; simp
    all_goals
      unfold rTime at e
      split at e
      · injection e with e; subst e; simp [putTm_length]
      · cases e
  · refine few_opt _ _ _ (fun x hx c e => ?_) (by simp)
    simp only [List.mem_cons, List.not_mem_nil, or_false] at hx
    subst hx
    rw [rTold_eq] at e
    split at e
    · injection e with e; subst e; rw [putAt_length]; omega
    · cases e
theorem all_weak (k : Wk) (g cap : Nat) (w' : World) (h : PartsB w' g (weakL k)) : Calls Tryd.prog 8 #[.slice (some ⟨g, 0, none⟩) 2 cap] w' (GivesPost (catP (weakL k)) w') :=
  all_any (weakL k) g 2 cap rfl (by omega) (few_weakL k) w' h
theorem told_mk_x {a : At} {w : World} (ha : a.wf) : Calls Tryd.prog 12 #[.agg #[.int .u32 a.kind, .int .u32 a.mode, .int .u32 a.links, .int .u32 a.user, .int .u32 a.group, .int .u64 a.size, .int .u64 a.used, .int .u64 a.id, .int .u32 a.read.sec, .int .u32 a.read.nano, .int .u32 a.write.sec, .int .u32 a.write.nano, .int .u32 a.turn.sec, .int .u32 a.turn.nano]] w (MakesPost (rTold a) w) := told_mk ha
set_option maxRecDepth 100000 in
set_option maxHeartbeats 4000000 in
theorem eq_attrs (a : At) (w : World) : (Op.equalIn 10000 28 (.agg #[.int .u32 a.kind, .int .u32 a.mode, .int .u32 a.links, .int .u32 a.user, .int .u32 a.group, .int .u64 a.size, .int .u64 a.used, .int .u64 a.id, .int .u32 a.read.sec, .int .u32 a.read.nano, .int .u32 a.write.sec, .int .u32 a.write.nano, .int .u32 a.turn.sec, .int .u32 a.turn.nano]) (.agg #[.int .u32 0, .int .u32 0, .int .u32 0, .int .u32 0, .int .u32 0, .int .u64 0, .int .u64 0, .int .u64 0, .int .u32 0, .int .u32 0, .int .u32 0, .int .u32 0, .int .u32 0, .int .u32 0])).run Tryd.prog w = .ok (a == At.zero) w := by
  go_simp
  obtain ⟨k, m, l, u, g, s, d, i, ⟨r1, r2⟩, ⟨w1, w2⟩, ⟨t1, t2⟩⟩ := a
  have e : ∀ b : Bool, (b = true ↔ k = 0 ∧ m = 0 ∧ l = 0 ∧ u = 0 ∧ g = 0 ∧ s = 0 ∧ d = 0 ∧ i = 0 ∧ r1 = 0 ∧ r2 = 0 ∧ w1 = 0 ∧ w2 = 0 ∧ t1 = 0 ∧ t2 = 0) → b = ((⟨k, m, l, u, g, s, d, i, ⟨r1, r2⟩, ⟨w1, w2⟩, ⟨t1, t2⟩⟩ : At) == At.zero) := fun b hb => by
    rw [Bool.eq_iff_iff, hb, beq_iff_eq]
    simp [At.zero, and_assoc]
  have E := Lib.hid e; clear e
  dsimp only
  by_cases h0 : k = 0
  case neg => rw [if_neg h0]; exact congrArg (fun b => Result.ok b w) (E.out false (by simp [*]))
  rw [if_pos h0]
  by_cases h1 : m = 0
  case neg => rw [if_neg h1]; exact congrArg (fun b => Result.ok b w) (E.out false (by simp [*]))
  rw [if_pos h1]
  by_cases h2 : l = 0
  case neg => rw [if_neg h2]; exact congrArg (fun b => Result.ok b w) (E.out false (by simp [*]))
  rw [if_pos h2]
  by_cases h3 : u = 0
  case neg => rw [if_neg h3]; exact congrArg (fun b => Result.ok b w) (E.out false (by simp [*]))
  rw [if_pos h3]
  by_cases h4 : g = 0
  case neg => rw [if_neg h4]; exact congrArg (fun b => Result.ok b w) (E.out false (by simp [*]))
  rw [if_pos h4]
  by_cases h5 : s = 0
  case neg => rw [if_neg h5]; exact congrArg (fun b => Result.ok b w) (E.out false (by simp [*]))
  rw [if_pos h5]
  by_cases h6 : d = 0
  case neg => rw [if_neg h6]; exact congrArg (fun b => Result.ok b w) (E.out false (by simp [*]))
  rw [if_pos h6]
  by_cases h7 : i = 0
  case neg => rw [if_neg h7]; exact congrArg (fun b => Result.ok b w) (E.out false (by simp [*]))
  rw [if_pos h7]
  by_cases h8 : r1 = 0
  case neg => rw [if_neg h8]; exact congrArg (fun b => Result.ok b w) (E.out false (by simp [*]))
  rw [if_pos h8]
  by_cases h9 : r2 = 0
  case neg => rw [if_neg h9]; exact congrArg (fun b => Result.ok b w) (E.out false (by simp [*]))
  rw [if_pos h9]
  by_cases h10 : w1 = 0
  case neg => rw [if_neg h10]; exact congrArg (fun b => Result.ok b w) (E.out false (by simp [*]))
  rw [if_pos h10]
  by_cases h11 : w2 = 0
  case neg => rw [if_neg h11]; exact congrArg (fun b => Result.ok b w) (E.out false (by simp [*]))
  rw [if_pos h11]
  by_cases h12 : t1 = 0
  case neg => rw [if_neg h12]; exact congrArg (fun b => Result.ok b w) (E.out false (by simp [*]))
  rw [if_pos h12]
  by_cases h13 : t2 = 0
  case neg => rw [if_neg h13]; exact congrArg (fun b => Result.ok b w) (E.out false (by simp [*]))
  rw [if_pos h13]
  exact congrArg (fun b => Result.ok b w) (E.out true (by simp [*]))
theorem eql_attrs (a : At) (w : World) : (binOp .eql 28 (.agg #[.int .u32 a.kind, .int .u32 a.mode, .int .u32 a.links, .int .u32 a.user, .int .u32 a.group, .int .u64 a.size, .int .u64 a.used, .int .u64 a.id, .int .u32 a.read.sec, .int .u32 a.read.nano, .int .u32 a.write.sec, .int .u32 a.write.nano, .int .u32 a.turn.sec, .int .u32 a.turn.nano]) (.agg #[.int .u32 0, .int .u32 0, .int .u32 0, .int .u32 0, .int .u32 0, .int .u64 0, .int .u64 0, .int .u64 0, .int .u32 0, .int .u32 0, .int .u32 0, .int .u32 0, .int .u32 0, .int .u32 0])).run Tryd.prog w = .ok (.bool (a == At.zero)) w := by
  rw [run_eql_struct, eq_attrs]; rfl
set_option maxRecDepth 100000 in
set_option maxHeartbeats 16000000 in
theorem PutWeak_go {k : Wk} {w : World} (hs : k.wf) : Calls Tryd.prog 4 #[eWeak k] w (PutPost (catP (weakL k)) w) := by
  have HA := Lib.hid (all_weak k)
  have HS := Lib.hid hs
  have heq := eql_attrs k.after
  have heq2 := eq_attrs k.after
  clear hs
  simp only [eWeak, Wk.cells]
  go_enter_defers Tryd.func4, Tryd.ntmps4
  go_upto_region 2 with fail
  go_cut [0, 4] from 5 (fun s0 s4 wx => s4 = .bool (zB k) ∧ wx = (w.alloc (.cells #[.bool k.hasBefore, .int .u64 k.size, .int .u32 k.write.sec, .int .u32 k.write.nano, .int .u32 k.turn.sec, .int .u32 k.turn.nano, .bool k.hasAfter, .int .u32 k.after.kind, .int .u32 k.after.mode, .int .u32 k.after.links, .int .u32 k.after.user, .int .u32 k.after.group, .int .u64 k.after.size, .int .u64 k.after.used, .int .u64 k.after.id, .int .u32 k.after.read.sec, .int .u32 k.after.read.nano, .int .u32 k.after.write.sec, .int .u32 k.after.write.nano, .int .u32 k.after.turn.sec, .int .u32 k.after.turn.nano] 30)).alloc (.cells #[.int .i64 0] 32))
  case first =>
    clear heq heq2
    go_wp2_with fail
    all_goals go_meet
    all_goals exact ⟨by simp [zB, *], by simp [*]⟩
  case rest =>
  obtain ⟨rfl, rfl⟩ := hcut
  go_upto_region 3 with fail
  have GM := Lib.hid (GL.nil ((w.alloc (.cells #[.bool k.hasBefore, .int .u64 k.size, .int .u32 k.write.sec, .int .u32 k.write.nano, .int .u32 k.turn.sec, .int .u32 k.turn.nano, .bool k.hasAfter, .int .u32 k.after.kind, .int .u32 k.after.mode, .int .u32 k.after.links, .int .u32 k.after.user, .int .u32 k.after.group, .int .u64 k.after.size, .int .u64 k.after.used, .int .u64 k.after.id, .int .u32 k.after.read.sec, .int .u32 k.after.read.nano, .int .u32 k.after.write.sec, .int .u32 k.after.write.nano, .int .u32 k.after.turn.sec, .int .u32 k.after.turn.nano] 30)).alloc (.cells #[.int .i64 0] 32)).drew)
  obtain ⟨wz, hwz⟩ : ∃ wz, (w.alloc (.cells #[.bool k.hasBefore, .int .u64 k.size, .int .u32 k.write.sec, .int .u32 k.write.nano, .int .u32 k.turn.sec, .int .u32 k.turn.nano, .bool k.hasAfter, .int .u32 k.after.kind, .int .u32 k.after.mode, .int .u32 k.after.links, .int .u32 k.after.user, .int .u32 k.after.group, .int .u64 k.after.size, .int .u64 k.after.used, .int .u64 k.after.id, .int .u32 k.after.read.sec, .int .u32 k.after.read.nano, .int .u32 k.after.write.sec, .int .u32 k.after.write.nano, .int .u32 k.after.turn.sec, .int .u32 k.after.turn.nano] 30)).alloc (.cells #[.int .i64 0] 32) = wz := ⟨_, rfl⟩
  rw [hwz] at GM ⊢
  have hBz : Below w.heap.size w wz := by rw [← hwz]; (with_reducible (repeat' (first | exact Below.refl _ _ | assumption | apply bl_alloc | apply bl_drewN | apply bl_drew | refine bl_set ?_ ?_ _))) <;> (first | done | (simp; done) | (simp; omega) | omega)
  have hz0 : w.heap.size < wz.heap.size := by rw [← hwz]; simp; try omega
  have hz1 : w.heap.size + 1 < wz.heap.size := by rw [← hwz]; simp
  have ho : (∀ o, wz.cell? ⟨w.heap.size, o, none⟩ = [Value.bool k.hasBefore, .int .u64 k.size, .int .u32 k.write.sec, .int .u32 k.write.nano, .int .u32 k.turn.sec, .int .u32 k.turn.nano, .bool k.hasAfter, .int .u32 k.after.kind, .int .u32 k.after.mode, .int .u32 k.after.links, .int .u32 k.after.user, .int .u32 k.after.group, .int .u64 k.after.size, .int .u64 k.after.used, .int .u64 k.after.id, .int .u32 k.after.read.sec, .int .u32 k.after.read.nano, .int .u32 k.after.write.sec, .int .u32 k.after.write.nano, .int .u32 k.after.turn.sec, .int .u32 k.after.turn.nano][o]?) ∧ wz.cell? ⟨w.heap.size + 1, 0, none⟩ = some (.int .i64 0) ∧ wz.frozen? ⟨w.heap.size + 1, 0, none⟩ = false := by rw [← hwz]; exact ⟨fun o => by simp [go_sem], by simp [go_sem], by simp [go_sem]⟩
  have HO := Lib.hid ho
  clear hwz ho
  have hk0 := HO.out.1; have hk1 := HO.out.2.1; have hk2 := HO.out.2.2
  have GG := Lib.hid (GL.nil wz.drew)
  have hB : Below wz.heap.size wz wz.drew := (Below.refl _ _).drew
  refine Code.wp_mono (Q := KQ ?K (fun c wx => ∃ er, catP (weakL k) = .error er ∧ c = wr er ∧ Below w.heap.size w wx ∧ wx.cell? ⟨w.heap.size + 1, 0, none⟩ = some (.int .i64 0) ∧ wx.frozen? ⟨w.heap.size + 1, 0, none⟩ = false ∧ w.heap.size + 1 < wx.heap.size) [{ target := Target.fn (Fn.func 7) #[], args := #[.pointer (some ⟨w.heap.size + 1, 0, none⟩)] }] (.slice none 0 0) (.pointer (some ⟨w.heap.size + 1, 0, none⟩))) ?imp ?reg
  case imp =>
    intro e a wx h
    cases e with
    | normal => exact h
    | panic c =>
      obtain ⟨⟨er, hr, rfl, hbx, hc, hf, hzx⟩, hD, ht, hp⟩ := h
      show Leaves _ _ a.tmps _ a.defers (.panicking (wr er)) wx
      rw [hD]
      refine leaves_cons (f := 7) (args := #[.pointer (some ⟨w.heap.size + 1, 0, none⟩)]) (by simp) (by simp [go_sem]) ?_
      refine (stop_panicking _ 0 er _ hc hf hzx).mono ?_
      rintro e u' w3 ⟨rfl, rfl, rfl⟩
      simp (maxDischargeDepth := 8) [Leaves, settle, results, Tryd.results4, go_sem, wrDone, hc, hf, hzx, ht, hp]
      exact ⟨by (with_reducible (repeat' (first | exact Below.refl _ _ | assumption | apply bl_alloc | apply bl_drewN | apply bl_drew | refine bl_set ?_ ?_ _))) <;> (first | done | (simp; done) | (simp; omega) | omega), .inr ⟨er, hr, rfl⟩⟩
    | exit _ => exact (h : False).elim
    | goto _ => exact (h : False).elim
    | ret => exact (h : False).elim
    | outgrown => exact (h : False).elim
  case reg =>
    first | (go_region_held_law (fun wx => (∀ o, wx.cell? ⟨w.heap.size, o, none⟩ = [Value.bool k.hasBefore, .int .u64 k.size, .int .u32 k.write.sec, .int .u32 k.write.nano, .int .u32 k.turn.sec, .int .u32 k.turn.nano, .bool k.hasAfter, .int .u32 k.after.kind, .int .u32 k.after.mode, .int .u32 k.after.links, .int .u32 k.after.user, .int .u32 k.after.group, .int .u64 k.after.size, .int .u64 k.after.used, .int .u64 k.after.id, .int .u32 k.after.read.sec, .int .u32 k.after.read.nano, .int .u32 k.after.write.sec, .int .u32 k.after.write.nano, .int .u32 k.after.turn.sec, .int .u32 k.after.turn.nano][o]?) ∧ wx.cell? ⟨w.heap.size + 1, 0, none⟩ = some (.int .i64 0) ∧ wx.frozen? ⟨w.heap.size + 1, 0, none⟩ = false) (first | (exact keep_alloc _ hk0 hk1 hk2 hgl hgl1) | (exact keep_set hk0 hk1 hk2 (by omega)) | (go_keep)) (first
      | (go_at_call_of 10 (Value.int .u64 (k.size : Int)); refine Calls.mono (long_mk k.size HS.out.1 _) ?_; rintro e w1 hm; (obtain ⟨f1, cp1, rfl, G1, b1⟩ := hm.get); clear hm; (have hB : Below wz.heap.size wz w1 := bl_then (by (with_reducible (repeat' (first | exact Below.refl _ _ | assumption | apply bl_alloc | apply bl_drewN | apply bl_drew | refine bl_set ?_ ?_ _))) <;> (first | done | (simp; done) | (simp; omega) | omega)) b1); (have hk0 : ∀ o, w1.cell? ⟨w.heap.size, o, none⟩ = [Value.bool k.hasBefore, .int .u64 k.size, .int .u32 k.write.sec, .int .u32 k.write.nano, .int .u32 k.turn.sec, .int .u32 k.turn.nano, .bool k.hasAfter, .int .u32 k.after.kind, .int .u32 k.after.mode, .int .u32 k.after.links, .int .u32 k.after.user, .int .u32 k.after.group, .int .u64 k.after.size, .int .u64 k.after.used, .int .u64 k.after.id, .int .u32 k.after.read.sec, .int .u32 k.after.read.nano, .int .u32 k.after.write.sec, .int .u32 k.after.write.nano, .int .u32 k.after.turn.sec, .int .u32 k.after.turn.nano][o]? := fun o => (hB.cell (p := ⟨w.heap.size, o, none⟩) hz0).trans (HO.out.1 o)); (have hk1 : w1.cell? ⟨w.heap.size + 1, 0, none⟩ = some (.int .i64 0) := (hB.cell (p := ⟨w.heap.size + 1, 0, none⟩) hz1).trans HO.out.2.1); (have hk2 : w1.frozen? ⟨w.heap.size + 1, 0, none⟩ = false := (hB.frozen (p := ⟨w.heap.size + 1, 0, none⟩) hz1).trans HO.out.2.2); (have hgl : w.heap.size < w1.heap.size := Nat.lt_of_lt_of_le hz0 hB.size); (have hgl1 : w.heap.size + 1 < w1.heap.size := Nat.lt_of_lt_of_le hz1 hB.size); (have GM := Lib.hid (GM.out.snoc b1 G1)); (have GG := Lib.hid (GG.out.below b1)); clear b1 G1)
      | (go_at_call_of 11 (Value.int .u32 (k.write.sec : Int)); refine Calls.mono (time_mk k.write HS.out.2.1 _) ?_; rintro e w1 hm; (obtain ⟨f1, cp1, rfl, G1, b1⟩ := hm.get); clear hm; (have hB : Below wz.heap.size wz w1 := bl_then (by (with_reducible (repeat' (first | exact Below.refl _ _ | assumption | apply bl_alloc | apply bl_drewN | apply bl_drew | refine bl_set ?_ ?_ _))) <;> (first | done | (simp; done) | (simp; omega) | omega)) b1); (have hk0 : ∀ o, w1.cell? ⟨w.heap.size, o, none⟩ = [Value.bool k.hasBefore, .int .u64 k.size, .int .u32 k.write.sec, .int .u32 k.write.nano, .int .u32 k.turn.sec, .int .u32 k.turn.nano, .bool k.hasAfter, .int .u32 k.after.kind, .int .u32 k.after.mode, .int .u32 k.after.links, .int .u32 k.after.user, .int .u32 k.after.group, .int .u64 k.after.size, .int .u64 k.after.used, .int .u64 k.after.id, .int .u32 k.after.read.sec, .int .u32 k.after.read.nano, .int .u32 k.after.write.sec, .int .u32 k.after.write.nano, .int .u32 k.after.turn.sec, .int .u32 k.after.turn.nano][o]? := fun o => (hB.cell (p := ⟨w.heap.size, o, none⟩) hz0).trans (HO.out.1 o)); (have hk1 : w1.cell? ⟨w.heap.size + 1, 0, none⟩ = some (.int .i64 0) := (hB.cell (p := ⟨w.heap.size + 1, 0, none⟩) hz1).trans HO.out.2.1); (have hk2 : w1.frozen? ⟨w.heap.size + 1, 0, none⟩ = false := (hB.frozen (p := ⟨w.heap.size + 1, 0, none⟩) hz1).trans HO.out.2.2); (have hgl : w.heap.size < w1.heap.size := Nat.lt_of_lt_of_le hz0 hB.size); (have hgl1 : w.heap.size + 1 < w1.heap.size := Nat.lt_of_lt_of_le hz1 hB.size); (have GM := Lib.hid (GM.out.snoc b1 G1)); (have GG := Lib.hid (GG.out.below b1)); clear b1 G1)
      | (go_at_call_of 11 (Value.int .u32 (k.turn.sec : Int)); refine Calls.mono (time_mk k.turn HS.out.2.2.1 _) ?_; rintro e w1 hm; (obtain ⟨f1, cp1, rfl, G1, b1⟩ := hm.get); clear hm; (have hB : Below wz.heap.size wz w1 := bl_then (by (with_reducible (repeat' (first | exact Below.refl _ _ | assumption | apply bl_alloc | apply bl_drewN | apply bl_drew | refine bl_set ?_ ?_ _))) <;> (first | done | (simp; done) | (simp; omega) | omega)) b1); (have hk0 : ∀ o, w1.cell? ⟨w.heap.size, o, none⟩ = [Value.bool k.hasBefore, .int .u64 k.size, .int .u32 k.write.sec, .int .u32 k.write.nano, .int .u32 k.turn.sec, .int .u32 k.turn.nano, .bool k.hasAfter, .int .u32 k.after.kind, .int .u32 k.after.mode, .int .u32 k.after.links, .int .u32 k.after.user, .int .u32 k.after.group, .int .u64 k.after.size, .int .u64 k.after.used, .int .u64 k.after.id, .int .u32 k.after.read.sec, .int .u32 k.after.read.nano, .int .u32 k.after.write.sec, .int .u32 k.after.write.nano, .int .u32 k.after.turn.sec, .int .u32 k.after.turn.nano][o]? := fun o => (hB.cell (p := ⟨w.heap.size, o, none⟩) hz0).trans (HO.out.1 o)); (have hk1 : w1.cell? ⟨w.heap.size + 1, 0, none⟩ = some (.int .i64 0) := (hB.cell (p := ⟨w.heap.size + 1, 0, none⟩) hz1).trans HO.out.2.1); (have hk2 : w1.frozen? ⟨w.heap.size + 1, 0, none⟩ = false := (hB.frozen (p := ⟨w.heap.size + 1, 0, none⟩) hz1).trans HO.out.2.2); (have hgl : w.heap.size < w1.heap.size := Nat.lt_of_lt_of_le hz0 hB.size); (have hgl1 : w.heap.size + 1 < w1.heap.size := Nat.lt_of_lt_of_le hz1 hB.size); (have GM := Lib.hid (GM.out.snoc b1 G1)); (have GG := Lib.hid (GG.out.below b1)); clear b1 G1)
      | (go_at_call_of 9 (Value.bool k.hasBefore); refine Calls.mono (opt_three k.hasBefore (zB k) (few_put8 _) (few_time _) (few_time _) GM.out) ?_; rintro e w1 hm; (obtain ⟨f1, cp1, rfl, G1, b1⟩ := hm.get); clear hm; (have hB : Below wz.heap.size wz w1 := bl_then (by (with_reducible (repeat' (first | exact Below.refl _ _ | assumption | apply bl_alloc | apply bl_drewN | apply bl_drew | refine bl_set ?_ ?_ _))) <;> (first | done | (simp; done) | (simp; omega) | omega)) b1); (have hk0 : ∀ o, w1.cell? ⟨w.heap.size, o, none⟩ = [Value.bool k.hasBefore, .int .u64 k.size, .int .u32 k.write.sec, .int .u32 k.write.nano, .int .u32 k.turn.sec, .int .u32 k.turn.nano, .bool k.hasAfter, .int .u32 k.after.kind, .int .u32 k.after.mode, .int .u32 k.after.links, .int .u32 k.after.user, .int .u32 k.after.group, .int .u64 k.after.size, .int .u64 k.after.used, .int .u64 k.after.id, .int .u32 k.after.read.sec, .int .u32 k.after.read.nano, .int .u32 k.after.write.sec, .int .u32 k.after.write.nano, .int .u32 k.after.turn.sec, .int .u32 k.after.turn.nano][o]? := fun o => (hB.cell (p := ⟨w.heap.size, o, none⟩) hz0).trans (HO.out.1 o)); (have hk1 : w1.cell? ⟨w.heap.size + 1, 0, none⟩ = some (.int .i64 0) := (hB.cell (p := ⟨w.heap.size + 1, 0, none⟩) hz1).trans HO.out.2.1); (have hk2 : w1.frozen? ⟨w.heap.size + 1, 0, none⟩ = false := (hB.frozen (p := ⟨w.heap.size + 1, 0, none⟩) hz1).trans HO.out.2.2); (have hgl : w.heap.size < w1.heap.size := Nat.lt_of_lt_of_le hz0 hB.size); (have hgl1 : w.heap.size + 1 < w1.heap.size := Nat.lt_of_lt_of_le hz1 hB.size); (have GG := Lib.hid (GG.out.snoc (bl_then (by (with_reducible (repeat' (first | exact Below.refl _ _ | assumption | apply bl_alloc | apply bl_drewN | apply bl_drew | refine bl_set ?_ ?_ _))) <;> (first | done | (simp; done) | (simp; omega) | omega)) b1) G1)); clear b1 G1)
      | (go_at_call 12; refine Calls.mono (told_mk_x HS.out.2.2.2) ?_; rintro e w1 hm; (obtain ⟨f1, cp1, rfl, G1, b1⟩ := hm.get); clear hm; (have hB : Below wz.heap.size wz w1 := bl_then (by (with_reducible (repeat' (first | exact Below.refl _ _ | assumption | apply bl_alloc | apply bl_drewN | apply bl_drew | refine bl_set ?_ ?_ _))) <;> (first | done | (simp; done) | (simp; omega) | omega)) b1); (have hk0 : ∀ o, w1.cell? ⟨w.heap.size, o, none⟩ = [Value.bool k.hasBefore, .int .u64 k.size, .int .u32 k.write.sec, .int .u32 k.write.nano, .int .u32 k.turn.sec, .int .u32 k.turn.nano, .bool k.hasAfter, .int .u32 k.after.kind, .int .u32 k.after.mode, .int .u32 k.after.links, .int .u32 k.after.user, .int .u32 k.after.group, .int .u64 k.after.size, .int .u64 k.after.used, .int .u64 k.after.id, .int .u32 k.after.read.sec, .int .u32 k.after.read.nano, .int .u32 k.after.write.sec, .int .u32 k.after.write.nano, .int .u32 k.after.turn.sec, .int .u32 k.after.turn.nano][o]? := fun o => (hB.cell (p := ⟨w.heap.size, o, none⟩) hz0).trans (HO.out.1 o)); (have hk1 : w1.cell? ⟨w.heap.size + 1, 0, none⟩ = some (.int .i64 0) := (hB.cell (p := ⟨w.heap.size + 1, 0, none⟩) hz1).trans HO.out.2.1); (have hk2 : w1.frozen? ⟨w.heap.size + 1, 0, none⟩ = false := (hB.frozen (p := ⟨w.heap.size + 1, 0, none⟩) hz1).trans HO.out.2.2); (have hgl : w.heap.size < w1.heap.size := Nat.lt_of_lt_of_le hz0 hB.size); (have hgl1 : w.heap.size + 1 < w1.heap.size := Nat.lt_of_lt_of_le hz1 hB.size); (have GN := Lib.hid G1); (have GG := Lib.hid (GG.out.below b1)); clear b1 G1)
      | (go_at_call_of 9 (Value.bool k.hasAfter); refine Calls.mono (opt_one k.hasAfter (k.after == At.zero) (few_told _) GN.out) ?_; rintro e w1 hm; (obtain ⟨f1, cp1, rfl, G1, b1⟩ := hm.get); clear hm; (have hB : Below wz.heap.size wz w1 := bl_then (by (with_reducible (repeat' (first | exact Below.refl _ _ | assumption | apply bl_alloc | apply bl_drewN | apply bl_drew | refine bl_set ?_ ?_ _))) <;> (first | done | (simp; done) | (simp; omega) | omega)) b1); (have hk0 : ∀ o, w1.cell? ⟨w.heap.size, o, none⟩ = [Value.bool k.hasBefore, .int .u64 k.size, .int .u32 k.write.sec, .int .u32 k.write.nano, .int .u32 k.turn.sec, .int .u32 k.turn.nano, .bool k.hasAfter, .int .u32 k.after.kind, .int .u32 k.after.mode, .int .u32 k.after.links, .int .u32 k.after.user, .int .u32 k.after.group, .int .u64 k.after.size, .int .u64 k.after.used, .int .u64 k.after.id, .int .u32 k.after.read.sec, .int .u32 k.after.read.nano, .int .u32 k.after.write.sec, .int .u32 k.after.write.nano, .int .u32 k.after.turn.sec, .int .u32 k.after.turn.nano][o]? := fun o => (hB.cell (p := ⟨w.heap.size, o, none⟩) hz0).trans (HO.out.1 o)); (have hk1 : w1.cell? ⟨w.heap.size + 1, 0, none⟩ = some (.int .i64 0) := (hB.cell (p := ⟨w.heap.size + 1, 0, none⟩) hz1).trans HO.out.2.1); (have hk2 : w1.frozen? ⟨w.heap.size + 1, 0, none⟩ = false := (hB.frozen (p := ⟨w.heap.size + 1, 0, none⟩) hz1).trans HO.out.2.2); (have hgl : w.heap.size < w1.heap.size := Nat.lt_of_lt_of_le hz0 hB.size); (have hgl1 : w.heap.size + 1 < w1.heap.size := Nat.lt_of_lt_of_le hz1 hB.size); (have GG := Lib.hid (GG.out.snoc (bl_then (by (with_reducible (repeat' (first | exact Below.refl _ _ | assumption | apply bl_alloc | apply bl_drewN | apply bl_drew | refine bl_set ?_ ?_ _))) <;> (first | done | (simp; done) | (simp; omega) | omega)) b1) G1)); clear b1 G1)
      | (go_at_call 8; refine Calls.mono (HA.out _ _ _ (PartsB.new [_, _] GG.out)) ?_; rintro e w3 ⟨b3, ⟨bs, v3, hr, rfl, o3⟩ | ⟨er, hr, rfl⟩⟩; rotate_left; ((have hB3 : Below wz.heap.size wz w3 := bl_then (by (with_reducible (repeat' (first | exact Below.refl _ _ | assumption | apply bl_alloc | apply bl_drewN | apply bl_drew | refine bl_set ?_ ?_ _))) <;> (first | done | (simp; done) | (simp; omega) | omega)) b3); exact ⟨⟨er, hr, rfl, bl_then hBz hB3, (hB3.cell (p := ⟨w.heap.size + 1, 0, none⟩) hz1).trans HO.out.2.1, (hB3.frozen (p := ⟨w.heap.size + 1, 0, none⟩) hz1).trans HO.out.2.2, Nat.lt_of_lt_of_le hz1 hB3.size⟩, rfl, rfl, rfl⟩); ((obtain ⟨A3, c3, hv3, h31, h32, h33⟩ := o3.reads); (rw [hv3] at o3 ⊢); clear hv3 h31 h32 h33; (have hB3 : Below wz.heap.size wz w3 := bl_then (by (with_reducible (repeat' (first | exact Below.refl _ _ | assumption | apply bl_alloc | apply bl_drewN | apply bl_drew | refine bl_set ?_ ?_ _))) <;> (first | done | (simp; done) | (simp; omega) | omega)) b3); (have hk0 : ∀ o, w3.cell? ⟨w.heap.size, o, none⟩ = [Value.bool k.hasBefore, .int .u64 k.size, .int .u32 k.write.sec, .int .u32 k.write.nano, .int .u32 k.turn.sec, .int .u32 k.turn.nano, .bool k.hasAfter, .int .u32 k.after.kind, .int .u32 k.after.mode, .int .u32 k.after.links, .int .u32 k.after.user, .int .u32 k.after.group, .int .u64 k.after.size, .int .u64 k.after.used, .int .u64 k.after.id, .int .u32 k.after.read.sec, .int .u32 k.after.read.nano, .int .u32 k.after.write.sec, .int .u32 k.after.write.nano, .int .u32 k.after.turn.sec, .int .u32 k.after.turn.nano][o]? := fun o => (hB3.cell (p := ⟨w.heap.size, o, none⟩) hz0).trans (HO.out.1 o)); (have hk1 : w3.cell? ⟨w.heap.size + 1, 0, none⟩ = some (.int .i64 0) := (hB3.cell (p := ⟨w.heap.size + 1, 0, none⟩) hz1).trans HO.out.2.1); (have hk2 : w3.frozen? ⟨w.heap.size + 1, 0, none⟩ = false := (hB3.frozen (p := ⟨w.heap.size + 1, 0, none⟩) hz1).trans HO.out.2.2); (have hgl : w.heap.size < w3.heap.size := Nat.lt_of_lt_of_le hz0 hB3.size); (have hgl1 : w.heap.size + 1 < w3.heap.size := Nat.lt_of_lt_of_le hz1 hB3.size); (have HR := Lib.hid hr); clear hr)))) | fail "no way"
    dsimp only [KQ]
    go_wp2
    refine leaves_cons (f := 7) (args := #[.pointer (some ⟨w.heap.size + 1, 0, none⟩)]) (by simp) (by simp [go_sem]) ?_
    refine (stop_idle _ _).mono ?_
    rintro e u' w3 ⟨rfl, rfl, rfl⟩
    simp (maxDischargeDepth := 8) [Leaves, settle, results, Tryd.results4, go_sem, *]
    have hBw : Below w.heap.size w w3 := bl_then hBz hB3
    exact ⟨by (with_reducible (repeat' (first | exact Below.refl _ _ | assumption | apply bl_alloc | apply bl_drewN | apply bl_drew | refine bl_set ?_ ?_ _))) <;> (first | done | (simp; done) | (simp; omega) | omega), .inl ⟨bs, _, HR.out, rfl, ((o3.set (by simp; omega) _).alloc _).mono (by simp; omega)⟩⟩
end Go.Proofs.YtkaapdnjlmceoabDoor

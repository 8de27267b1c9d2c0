/- attrs.Get: the door. -/
import Derived.Test.YtkaapdnjlmceoaaRHadC
set_option linter.unusedVariables false
set_option linter.unusedSimpArgs false
namespace Go.Proofs.Ytkaapdnjlmceoaa
open Go.RowKit
theorem below_grown {m R : Nat} {w a b : World} (h : Below m w a) (hg : a.grownBy b (some R)) (hm : m ≤ w.heap.size) (hR : m ≤ R) : Below m w b :=
  ⟨hg.os.trans h.os, hg.tape.trans h.tape, hg.output.trans h.output, Nat.le_trans h.size hg.size, fun i hi => (hg.block i (Nat.lt_of_lt_of_le hi (by have := h.size; omega)) (by simp; omega)).trans (h.block i hi)⟩
/-- What a Get comes to. -/
def GetPost {α : Type} (p : Ps α) (enc : α → Value) (z : α) (n : Nat) (xs : List UInt8) (w : World) (e : Ending) (w' : World) : Prop :=
  Below w.heap.size w w' ∧ ((∃ v k, p xs = .ok (v, k) ∧ k ≤ n ∧ e = .returned (.tuple #[enc v, .int .i64 k, .int .i64 0])) ∨
  (∃ er, p xs = .error er ∧ e = .returned (.tuple #[enc z, .int .i64 0, .int .i64 er])))
section
variable {A : Option Addr} {n cap : Nat} {xs : List UInt8} {w : World}
theorem RB.new {R : Nat} (h : R = w.heap.size) : RB (w.alloc (.cells #[.slice A n cap, .int .i64 0] 65)) R A n cap 0 := by
  subst h; unfold RB World.alloc; simp

set_option maxRecDepth 100000 in
set_option maxHeartbeats 4000000 in
theorem Get_any (hB : Bs w A n xs) (hc : n ≤ cap) :
    Calls Try.prog 15 #[.slice A n cap] w (GetPost pAttrs eAttrs At.zero n xs w) := by
  have hn := hB.2.1
  have HB := Lib.hid hB
  clear hB
  go_enter_defers Try.func15, Try.ntmps15
  go_wp2_with fail
  refine (attrs_any (k := 0) (RB.new (by simp)) (((HB.out.alloc _).alloc _).alloc _) hc (Nat.zero_le _)).mono ?_
  rintro e w1 (⟨v, j, hp, hl, rfl, hR', hg⟩ | ⟨er, hp, rfl, hg⟩)
  · have hp := Lib.hid hp
    obtain ⟨hcx, hfx⟩ := gcell hg
    have hzx := hg.size; simp at hzx
    have hcx0 := fun o => hcx w.heap.size o (by simp; omega) (by omega)
    have hfx0 := fun o => hfx w.heap.size o (by simp; omega) (by omega)
    have hcx1 := hcx (w.heap.size + 1) 0 (by simp) (by omega)
    have hfx1 := hfx (w.heap.size + 1) 0 (by simp) (by omega)
    clear hcx hfx
    try simp [go_sem] at hcx0
    try simp [go_sem] at hfx0
    try simp [go_sem] at hcx1
    try simp [go_sem] at hfx1
    have hz0 : w.heap.size < w1.heap.size := by omega
    have hz1 : w.heap.size + 1 < w1.heap.size := by omega
    have hz2 : w.heap.size + 1 + 1 < w1.heap.size := by omega
    have HW := Lib.hid (below_grown (m := w.heap.size) (w := w) (by (with_reducible (repeat' (first | exact Below.refl _ _ | assumption | apply bl_alloc | apply bl_drewN | apply bl_drew | refine bl_set ?_ ?_ _))) <;> (first | done | (simp; done) | (simp; omega) | omega)) hg (Nat.le_refl _) (by omega))
    have h0 := hR'.at_
    clear hR' hg
    simp only [eAttrs, At.cells]
    go_wp2_with fail
    go_region
    all_goals (try go_wp2_with fail)
    all_goals
      refine leaves_cons (f := 29) (args := #[.pointer (some ⟨w.heap.size + 1, 0, none⟩)]) (by simp) (by simp [go_sem]) ?_
      refine (stop_idle _ _).mono ?_
      rintro e u' w2 ⟨rfl, rfl, rfl⟩
      simp (maxDischargeDepth := 8) [Leaves, settle, results, Try.results15, go_sem, *]
      have HW := HW.out
      refine ⟨by (with_reducible (repeat' (first | exact Below.refl _ _ | assumption | apply bl_alloc | apply bl_drewN | apply bl_drew | refine bl_set ?_ ?_ _))) <;> (first | done | (simp; done) | (simp; omega) | omega), .inl ⟨v, j, by simpa using (‹Hid (pAttrs _ = _)›).out, by omega, ?_⟩⟩
      simp [eAttrs, At.cells]
  · have hp := Lib.hid hp
    obtain ⟨hcx, hfx⟩ := gcell hg
    have hzx := hg.size; simp at hzx
    have hcx0 := fun o => hcx w.heap.size o (by simp; omega) (by omega)
    have hfx0 := fun o => hfx w.heap.size o (by simp; omega) (by omega)
    have hcx1 := hcx (w.heap.size + 1) 0 (by simp) (by omega)
    have hfx1 := hfx (w.heap.size + 1) 0 (by simp) (by omega)
    clear hcx hfx
    try simp [go_sem] at hcx0
    try simp [go_sem] at hfx0
    try simp [go_sem] at hcx1
    try simp [go_sem] at hfx1
    have hz0 : w.heap.size < w1.heap.size := by omega
    have hz1 : w.heap.size + 1 < w1.heap.size := by omega
    have hz2 : w.heap.size + 1 + 1 < w1.heap.size := by omega
    have HW := Lib.hid (below_grown (m := w.heap.size) (w := w) (by (with_reducible (repeat' (first | exact Below.refl _ _ | assumption | apply bl_alloc | apply bl_drewN | apply bl_drew | refine bl_set ?_ ?_ _))) <;> (first | done | (simp; done) | (simp; omega) | omega)) hg (Nat.le_refl _) (by omega))
    clear hg
    go_wp2_with fail
    refine leaves_cons (f := 29) (args := #[.pointer (some ⟨w.heap.size + 1, 0, none⟩)]) (by simp) (by simp [go_sem]) ?_
    refine (stop_panicking _ 0 er _ (by simp [go_sem, hcx1]) (by simp [go_sem, hfx1]) (by simp; omega)).mono ?_
    rintro e u' w2 ⟨rfl, rfl, rfl⟩
    simp (maxDischargeDepth := 8) [Leaves, settle, results, Try.results15, go_sem, wrDone, *]
    have HW := HW.out
    refine ⟨by (with_reducible (repeat' (first | exact Below.refl _ _ | assumption | apply bl_alloc | apply bl_drewN | apply bl_drew | refine bl_set ?_ ?_ _))) <;> (first | done | (simp; done) | (simp; omega) | omega), .inr ⟨er, by simpa using (‹Hid (pAttrs _ = _)›).out, ?_⟩⟩
    simp [eAttrs, At.cells, At.zero]
end
end Go.Proofs.Ytkaapdnjlmceoaa

/- attrs.PutWeak: the door. Printed by gen_dput.py. -/
import Derived.Test.YtgmhapjidbdhnaaGreatJA
import Derived.Test.YtgmhapjidbdhnaaGreatJD
import Derived.Deep.RegionHeldLaw
set_option linter.unusedVariables false
set_option linter.unusedSimpArgs false
namespace Go.Proofs.YtgmhapjidbdhnaaGreat
open Go.RowKit
/-- Behind the first k bytes q is what is left of p. -/
def Goes {α : Type} (p : Ps α) (xs : List UInt8) (k : Nat) (q : Ps α) : Prop :=
  p xs = match q (xs.drop k) with | .error e => .error e | .ok (x, m) => .ok (x, k + m)
namespace Goes
variable {α β γ : Type} {p : Ps α} {xs : List UInt8} {k j : Nat}
theorem start (p : Ps α) (xs : List UInt8) : Goes p xs 0 p := by
  unfold Goes
  rw [List.drop_zero]
  rcases p xs with e | ⟨x, m⟩
  · rfl
  · simp
theorem step {a : Ps β} {f : β → Ps α} {v : β} (h : Goes p xs k (Ps.bind a f)) (ha : a (xs.drop k) = .ok (v, j)) : Goes p xs (k + j) (f v) := by
  unfold Goes at h ⊢
  rw [h, Ps.bind_ok ha, List.drop_drop]
  rcases f v (xs.drop (k + j)) with e | ⟨x, m⟩
  · rfl
  · simp [Nat.add_assoc]
theorem fail {a : Ps β} {f : β → Ps α} {e : Int} (h : Goes p xs k (Ps.bind a f)) (ha : a (xs.drop k) = .error e) : p xs = .error e := by
  unfold Goes at h
  rw [h, Ps.bind_error ha]
theorem done {x : α} (h : Goes p xs k (Ps.pure x)) : p xs = .ok (x, k) := h
theorem assoc {a : Ps β} {f : β → Ps γ} {g : γ → Ps α} (h : Goes p xs k (Ps.bind (Ps.bind a f) g)) : Goes p xs k (Ps.bind a fun v => Ps.bind (f v) g) := by
  unfold Goes at h ⊢
  rw [h]
  rcases ha : a (xs.drop k) with e | ⟨v, j⟩
  · simp [Ps.bind, ha]
  · simp only [Ps.bind, ha]
    rcases hf : f v ((xs.drop k).drop j) with e | ⟨y, m⟩
    · rfl
    · simp only [List.drop_drop, Nat.add_assoc]
      rcases g y (xs.drop (k + (j + m))) with e | ⟨z, l⟩
      · rfl
      · rfl
theorem pure_bind {x : β} {f : β → Ps α} (h : Goes p xs k (Ps.bind (Ps.pure x) f)) : Goes p xs k (f x) := by
  have := h.step (v := x) (j := 0) rfl
  simpa using this
theorem need_ok {c : Bool} {e : Int} {f : Unit → Ps α} (h : Goes p xs k (Ps.bind (Ps.need c e) f)) (hc : c = true) : Goes p xs k (f ()) := by
  have := h.step (v := ()) (j := 0) (by simp [Ps.need, hc])
  simpa using this
theorem need_bad {c : Bool} {e : Int} {f : Unit → Ps α} (h : Goes p xs k (Ps.bind (Ps.need c e) f)) (hc : c = false) : p xs = .error e := h.fail (by simp [Ps.need, hc])
end Goes
theorem Ps.bind_assoc {α β γ : Type} (a : Ps α) (f : α → Ps β) (g : β → Ps γ) : Ps.bind (Ps.bind a f) g = Ps.bind a fun v => Ps.bind (f v) g := by
  funext b
  rcases ha : a b with e | ⟨v, j⟩
  · simp [Ps.bind, ha]
  · simp only [Ps.bind, ha]
    rcases hf : f v (b.drop j) with e | ⟨y, m⟩
    · rfl
    · simp only [List.drop_drop]
      rcases g y (b.drop (j + m)) with e | ⟨z, l⟩
      · rfl
      · simp [Nat.add_assoc]
theorem Ps.pure_bind {α β : Type} (x : α) (f : α → Ps β) : Ps.bind (Ps.pure x) f = f x := by
  funext b
  simp only [Ps.bind, Ps.pure, List.drop_zero]
  rcases f x b with e | ⟨z, l⟩
  · rfl
  · simp
end Go.Proofs.YtgmhapjidbdhnaaGreat
namespace Go.Proofs.YtgmhapjidbdhnaaGreat
open Go.RowKit
def St.cells (s : St) : Array Value := #[.bool s.hasMode, .int .u32 s.mode, .bool s.hasUser, .int .u32 s.user, .bool s.hasGroup, .int .u32 s.group, .bool s.hasSize, .int .u64 s.size, .int .u32 s.readHow, .int .u32 s.read.sec, .int .u32 s.read.nano, .int .u32 s.writeHow, .int .u32 s.write.sec, .int .u32 s.write.nano]
def eSet (s : St) : Value := .agg s.cells
section
variable {A : Option Addr} {n cap : Nat} {xs : List UInt8} {w : World}
theorem RB.of_newest {R : Nat} {w2 : World} {A : Option Addr} {n cap : Nat} (h : w2.heap.size = R) (o : Obj) : RB ((w2.alloc (.cells #[.slice A n cap, .int .i64 0] 149)).alloc o) R A n cap 0 := (RB.new h.symm).alloc o

set_option maxRecDepth 100000 in
set_option maxHeartbeats 8000000 in
theorem GetSet_any (hB : Bs w A n xs) (hc : n ≤ cap) :
    Calls Tryz.prog 69 #[.slice A n cap] w (GetPost pSet eSet St.zero n xs w) := by
  have hn := hB.2.1
  have HB := Lib.hid hB
  have HQ := Lib.hid (Goes.start pSet xs)
  clear hB
  go_enter_defers Tryz.func69, Tryz.ntmps69
  go_wp2_with fail
  refine (hadMode (k := 0) (P := w.heap.size + 1 + 1 + 1 + 1) (R := w.heap.size + 1 + 1 + 1) (by simp [go_sem]) (by omega) (by simp) (RB.of_newest (by simp) _) (HB.out.below (by (with_reducible (repeat' (first | exact Below.refl _ _ | assumption | apply bl_alloc | apply bl_drewN | apply bl_drew | refine bl_set ?_ ?_ _))) <;> (first | done | (simp; done) | (simp; omega) | omega))) hc (Nat.zero_le _)).mono ?_
  rintro e w1 (⟨v1, j1, hp, hl1, rfl, hR1, hg⟩ | ⟨er, hp, rfl, hg⟩)
  · have HQ1 := Lib.hid (HQ.out.step hp)
    clear HQ hp
    have hz0 := hg.size; (try simp at hz0); have hz : w.heap.size + 1 + 1 + 1 + 1 < w1.heap.size := (by omega); have hza : w.heap.size < w1.heap.size := (by omega); have hzb : w.heap.size + 1 < w1.heap.size := (by omega); have hzc : w.heap.size + 1 + 1 < w1.heap.size := (by omega); have hzd : w.heap.size + 1 + 1 + 1 < w1.heap.size := (by omega); have hr : ∀ o, w1.cell? ⟨w.heap.size, o, none⟩ = _ := fun o => (gcell hg).1 _ o (by simp; try omega) (by omega); have hs : ∀ o, w1.cell? ⟨w.heap.size + 1 + 1, o, none⟩ = _ := fun o => (gcell hg).1 _ o (by simp; try omega) (by omega); have hP : w1.cell? ⟨w.heap.size + 1 + 1 + 1 + 1, 0, none⟩ = _ := (gcell hg).1 _ 0 (by simp; try omega) (by omega); have he : w1.cell? ⟨w.heap.size + 1, 0, none⟩ = _ := (gcell hg).1 _ 0 (by simp; try omega) (by omega); have fr : ∀ o, w1.frozen? ⟨w.heap.size, o, none⟩ = _ := fun o => (gcell hg).2 _ o (by simp; try omega) (by omega); have fs : ∀ o, w1.frozen? ⟨w.heap.size + 1 + 1, o, none⟩ = _ := fun o => (gcell hg).2 _ o (by simp; try omega) (by omega); have fe : w1.frozen? ⟨w.heap.size + 1, 0, none⟩ = _ := (gcell hg).2 _ 0 (by simp; try omega) (by omega); (try simp [go_sem] at hr); (try simp [go_sem] at hs); (try simp [go_sem] at hP); (try simp [go_sem] at he); (try simp [go_sem] at fr); (try simp [go_sem] at fs); (try simp [go_sem] at fe); have hW : Below w.heap.size w w1 := below_grown (by (with_reducible (repeat' (first | exact Below.refl _ _ | assumption | apply bl_alloc | apply bl_drewN | apply bl_drew | refine bl_set ?_ ?_ _))) <;> (first | done | (simp; done) | (simp; omega) | omega)) hg (Nat.le_refl _) (by omega); clear hg
    simp only [eHad, eNum]
    go_wp2_with (first | (((go_at_call 95; refine Calls.mono (hadNum (by (with_reducible (repeat' (first | assumption | apply RB.other | apply RB.alloc | apply RB.drewN))) <;> (first | done | (simp; done) | (simp; omega) | omega)) (HB.out.below (by (with_reducible (repeat' (first | exact Below.refl _ _ | assumption | apply bl_alloc | apply bl_drewN | apply bl_drew | refine bl_set ?_ ?_ _))) <;> (first | done | (simp; done) | (simp; omega) | omega))) hc ?_) ?_; omega; rintro e w2 (⟨v2, j2, hp, hl, rfl, hR1, hg⟩ | ⟨er, hp, rfl, hg⟩); rotate_left; (have HE := Lib.hid (HQ1.out.fail hp); clear hp; have hz0 := hg.size; (try simp at hz0); have hz : w.heap.size + 1 + 1 + 1 + 1 < w2.heap.size := (by omega); have hza : w.heap.size < w2.heap.size := (by omega); have hzb : w.heap.size + 1 < w2.heap.size := (by omega); have hzc : w.heap.size + 1 + 1 < w2.heap.size := (by omega); have hzd : w.heap.size + 1 + 1 + 1 < w2.heap.size := (by omega); have hr : ∀ o, w2.cell? ⟨w.heap.size, o, none⟩ = _ := fun o => (gcell hg).1 _ o (by simp; try omega) (by omega); have hs : ∀ o, w2.cell? ⟨w.heap.size + 1 + 1, o, none⟩ = _ := fun o => (gcell hg).1 _ o (by simp; try omega) (by omega); have hP : w2.cell? ⟨w.heap.size + 1 + 1 + 1 + 1, 0, none⟩ = _ := (gcell hg).1 _ 0 (by simp; try omega) (by omega); have he : w2.cell? ⟨w.heap.size + 1, 0, none⟩ = _ := (gcell hg).1 _ 0 (by simp; try omega) (by omega); have fr : ∀ o, w2.frozen? ⟨w.heap.size, o, none⟩ = _ := fun o => (gcell hg).2 _ o (by simp; try omega) (by omega); have fs : ∀ o, w2.frozen? ⟨w.heap.size + 1 + 1, o, none⟩ = _ := fun o => (gcell hg).2 _ o (by simp; try omega) (by omega); have fe : w2.frozen? ⟨w.heap.size + 1, 0, none⟩ = _ := (gcell hg).2 _ 0 (by simp; try omega) (by omega); (try simp [go_sem] at hr); (try simp [go_sem] at hs); (try simp [go_sem] at hP); (try simp [go_sem] at he); (try simp [go_sem] at fr); (try simp [go_sem] at fs); (try simp [go_sem] at fe); have hW : Below w.heap.size w w2 := below_grown (by (with_reducible (repeat' (first | exact Below.refl _ _ | assumption | apply bl_alloc | apply bl_drewN | apply bl_drew | refine bl_set ?_ ?_ _))) <;> (first | done | (simp; done) | (simp; omega) | omega)) hg (Nat.le_refl _) (by omega); clear hg); rotate_left; (have HQ1 := Lib.hid (HQ1.out.step hp); clear hp; have hz0 := hg.size; (try simp at hz0); have hz : w.heap.size + 1 + 1 + 1 + 1 < w2.heap.size := (by omega); have hza : w.heap.size < w2.heap.size := (by omega); have hzb : w.heap.size + 1 < w2.heap.size := (by omega); have hzc : w.heap.size + 1 + 1 < w2.heap.size := (by omega); have hzd : w.heap.size + 1 + 1 + 1 < w2.heap.size := (by omega); have hr : ∀ o, w2.cell? ⟨w.heap.size, o, none⟩ = _ := fun o => (gcell hg).1 _ o (by simp; try omega) (by omega); have hs : ∀ o, w2.cell? ⟨w.heap.size + 1 + 1, o, none⟩ = _ := fun o => (gcell hg).1 _ o (by simp; try omega) (by omega); have hP : w2.cell? ⟨w.heap.size + 1 + 1 + 1 + 1, 0, none⟩ = _ := (gcell hg).1 _ 0 (by simp; try omega) (by omega); have he : w2.cell? ⟨w.heap.size + 1, 0, none⟩ = _ := (gcell hg).1 _ 0 (by simp; try omega) (by omega); have fr : ∀ o, w2.frozen? ⟨w.heap.size, o, none⟩ = _ := fun o => (gcell hg).2 _ o (by simp; try omega) (by omega); have fs : ∀ o, w2.frozen? ⟨w.heap.size + 1 + 1, o, none⟩ = _ := fun o => (gcell hg).2 _ o (by simp; try omega) (by omega); have fe : w2.frozen? ⟨w.heap.size + 1, 0, none⟩ = _ := (gcell hg).2 _ 0 (by simp; try omega) (by omega); (try simp [go_sem] at hr); (try simp [go_sem] at hs); (try simp [go_sem] at hP); (try simp [go_sem] at he); (try simp [go_sem] at fr); (try simp [go_sem] at fs); (try simp [go_sem] at fe); have hW : Below w.heap.size w w2 := below_grown (by (with_reducible (repeat' (first | exact Below.refl _ _ | assumption | apply bl_alloc | apply bl_drewN | apply bl_drew | refine bl_set ?_ ?_ _))) <;> (first | done | (simp; done) | (simp; omega) | omega)) hg (Nat.le_refl _) (by omega); clear hg; simp only [eHad, eNum, eLong, eHow, eTime, eAttrs, At.cells])))) | (go_at_call 98; refine Calls.mono (hadLong (by (with_reducible (repeat' (first | assumption | apply RB.other | apply RB.alloc | apply RB.drewN))) <;> (first | done | (simp; done) | (simp; omega) | omega)) (HB.out.below (by (with_reducible (repeat' (first | exact Below.refl _ _ | assumption | apply bl_alloc | apply bl_drewN | apply bl_drew | refine bl_set ?_ ?_ _))) <;> (first | done | (simp; done) | (simp; omega) | omega))) hc ?_) ?_; omega; rintro e w2 (⟨v2, j2, hp, hl, rfl, hR1, hg⟩ | ⟨er, hp, rfl, hg⟩); rotate_left; (have HE := Lib.hid (HQ1.out.fail hp); clear hp; have hz0 := hg.size; (try simp at hz0); have hz : w.heap.size + 1 + 1 + 1 + 1 < w2.heap.size := (by omega); have hza : w.heap.size < w2.heap.size := (by omega); have hzb : w.heap.size + 1 < w2.heap.size := (by omega); have hzc : w.heap.size + 1 + 1 < w2.heap.size := (by omega); have hzd : w.heap.size + 1 + 1 + 1 < w2.heap.size := (by omega); have hr : ∀ o, w2.cell? ⟨w.heap.size, o, none⟩ = _ := fun o => (gcell hg).1 _ o (by simp; try omega) (by omega); have hs : ∀ o, w2.cell? ⟨w.heap.size + 1 + 1, o, none⟩ = _ := fun o => (gcell hg).1 _ o (by simp; try omega) (by omega); have hP : w2.cell? ⟨w.heap.size + 1 + 1 + 1 + 1, 0, none⟩ = _ := (gcell hg).1 _ 0 (by simp; try omega) (by omega); have he : w2.cell? ⟨w.heap.size + 1, 0, none⟩ = _ := (gcell hg).1 _ 0 (by simp; try omega) (by omega); have fr : ∀ o, w2.frozen? ⟨w.heap.size, o, none⟩ = _ := fun o => (gcell hg).2 _ o (by simp; try omega) (by omega); have fs : ∀ o, w2.frozen? ⟨w.heap.size + 1 + 1, o, none⟩ = _ := fun o => (gcell hg).2 _ o (by simp; try omega) (by omega); have fe : w2.frozen? ⟨w.heap.size + 1, 0, none⟩ = _ := (gcell hg).2 _ 0 (by simp; try omega) (by omega); (try simp [go_sem] at hr); (try simp [go_sem] at hs); (try simp [go_sem] at hP); (try simp [go_sem] at he); (try simp [go_sem] at fr); (try simp [go_sem] at fs); (try simp [go_sem] at fe); have hW : Below w.heap.size w w2 := below_grown (by (with_reducible (repeat' (first | exact Below.refl _ _ | assumption | apply bl_alloc | apply bl_drewN | apply bl_drew | refine bl_set ?_ ?_ _))) <;> (first | done | (simp; done) | (simp; omega) | omega)) hg (Nat.le_refl _) (by omega); clear hg); rotate_left; (have HQ1 := Lib.hid (HQ1.out.step hp); clear hp; have hz0 := hg.size; (try simp at hz0); have hz : w.heap.size + 1 + 1 + 1 + 1 < w2.heap.size := (by omega); have hza : w.heap.size < w2.heap.size := (by omega); have hzb : w.heap.size + 1 < w2.heap.size := (by omega); have hzc : w.heap.size + 1 + 1 < w2.heap.size := (by omega); have hzd : w.heap.size + 1 + 1 + 1 < w2.heap.size := (by omega); have hr : ∀ o, w2.cell? ⟨w.heap.size, o, none⟩ = _ := fun o => (gcell hg).1 _ o (by simp; try omega) (by omega); have hs : ∀ o, w2.cell? ⟨w.heap.size + 1 + 1, o, none⟩ = _ := fun o => (gcell hg).1 _ o (by simp; try omega) (by omega); have hP : w2.cell? ⟨w.heap.size + 1 + 1 + 1 + 1, 0, none⟩ = _ := (gcell hg).1 _ 0 (by simp; try omega) (by omega); have he : w2.cell? ⟨w.heap.size + 1, 0, none⟩ = _ := (gcell hg).1 _ 0 (by simp; try omega) (by omega); have fr : ∀ o, w2.frozen? ⟨w.heap.size, o, none⟩ = _ := fun o => (gcell hg).2 _ o (by simp; try omega) (by omega); have fs : ∀ o, w2.frozen? ⟨w.heap.size + 1 + 1, o, none⟩ = _ := fun o => (gcell hg).2 _ o (by simp; try omega) (by omega); have fe : w2.frozen? ⟨w.heap.size + 1, 0, none⟩ = _ := (gcell hg).2 _ 0 (by simp; try omega) (by omega); (try simp [go_sem] at hr); (try simp [go_sem] at hs); (try simp [go_sem] at hP); (try simp [go_sem] at he); (try simp [go_sem] at fr); (try simp [go_sem] at fs); (try simp [go_sem] at fe); have hW : Below w.heap.size w w2 := below_grown (by (with_reducible (repeat' (first | exact Below.refl _ _ | assumption | apply bl_alloc | apply bl_drewN | apply bl_drew | refine bl_set ?_ ?_ _))) <;> (first | done | (simp; done) | (simp; omega) | omega)) hg (Nat.le_refl _) (by omega); clear hg; simp only [eHad, eNum, eLong, eHow, eTime, eAttrs, At.cells])) | (go_at_call 100; refine Calls.mono (how_any (by (with_reducible (repeat' (first | assumption | apply RB.other | apply RB.alloc | apply RB.drewN))) <;> (first | done | (simp; done) | (simp; omega) | omega)) (HB.out.below (by (with_reducible (repeat' (first | exact Below.refl _ _ | assumption | apply bl_alloc | apply bl_drewN | apply bl_drew | refine bl_set ?_ ?_ _))) <;> (first | done | (simp; done) | (simp; omega) | omega))) hc ?_) ?_; omega; rintro e w2 (⟨v2, j2, hp, hl, rfl, hR1, hg⟩ | ⟨er, hp, rfl, hg⟩); rotate_left; (have HE := Lib.hid (HQ1.out.fail hp); clear hp; have hz0 := hg.size; (try simp at hz0); have hz : w.heap.size + 1 + 1 + 1 + 1 < w2.heap.size := (by omega); have hza : w.heap.size < w2.heap.size := (by omega); have hzb : w.heap.size + 1 < w2.heap.size := (by omega); have hzc : w.heap.size + 1 + 1 < w2.heap.size := (by omega); have hzd : w.heap.size + 1 + 1 + 1 < w2.heap.size := (by omega); have hr : ∀ o, w2.cell? ⟨w.heap.size, o, none⟩ = _ := fun o => (gcell hg).1 _ o (by simp; try omega) (by omega); have hs : ∀ o, w2.cell? ⟨w.heap.size + 1 + 1, o, none⟩ = _ := fun o => (gcell hg).1 _ o (by simp; try omega) (by omega); have hP : w2.cell? ⟨w.heap.size + 1 + 1 + 1 + 1, 0, none⟩ = _ := (gcell hg).1 _ 0 (by simp; try omega) (by omega); have he : w2.cell? ⟨w.heap.size + 1, 0, none⟩ = _ := (gcell hg).1 _ 0 (by simp; try omega) (by omega); have fr : ∀ o, w2.frozen? ⟨w.heap.size, o, none⟩ = _ := fun o => (gcell hg).2 _ o (by simp; try omega) (by omega); have fs : ∀ o, w2.frozen? ⟨w.heap.size + 1 + 1, o, none⟩ = _ := fun o => (gcell hg).2 _ o (by simp; try omega) (by omega); have fe : w2.frozen? ⟨w.heap.size + 1, 0, none⟩ = _ := (gcell hg).2 _ 0 (by simp; try omega) (by omega); (try simp [go_sem] at hr); (try simp [go_sem] at hs); (try simp [go_sem] at hP); (try simp [go_sem] at he); (try simp [go_sem] at fr); (try simp [go_sem] at fs); (try simp [go_sem] at fe); have hW : Below w.heap.size w w2 := below_grown (by (with_reducible (repeat' (first | exact Below.refl _ _ | assumption | apply bl_alloc | apply bl_drewN | apply bl_drew | refine bl_set ?_ ?_ _))) <;> (first | done | (simp; done) | (simp; omega) | omega)) hg (Nat.le_refl _) (by omega); clear hg); rotate_left; (have HQ1 := Lib.hid (HQ1.out.step hp); clear hp; have hz0 := hg.size; (try simp at hz0); have hz : w.heap.size + 1 + 1 + 1 + 1 < w2.heap.size := (by omega); have hza : w.heap.size < w2.heap.size := (by omega); have hzb : w.heap.size + 1 < w2.heap.size := (by omega); have hzc : w.heap.size + 1 + 1 < w2.heap.size := (by omega); have hzd : w.heap.size + 1 + 1 + 1 < w2.heap.size := (by omega); have hr : ∀ o, w2.cell? ⟨w.heap.size, o, none⟩ = _ := fun o => (gcell hg).1 _ o (by simp; try omega) (by omega); have hs : ∀ o, w2.cell? ⟨w.heap.size + 1 + 1, o, none⟩ = _ := fun o => (gcell hg).1 _ o (by simp; try omega) (by omega); have hP : w2.cell? ⟨w.heap.size + 1 + 1 + 1 + 1, 0, none⟩ = _ := (gcell hg).1 _ 0 (by simp; try omega) (by omega); have he : w2.cell? ⟨w.heap.size + 1, 0, none⟩ = _ := (gcell hg).1 _ 0 (by simp; try omega) (by omega); have fr : ∀ o, w2.frozen? ⟨w.heap.size, o, none⟩ = _ := fun o => (gcell hg).2 _ o (by simp; try omega) (by omega); have fs : ∀ o, w2.frozen? ⟨w.heap.size + 1 + 1, o, none⟩ = _ := fun o => (gcell hg).2 _ o (by simp; try omega) (by omega); have fe : w2.frozen? ⟨w.heap.size + 1, 0, none⟩ = _ := (gcell hg).2 _ 0 (by simp; try omega) (by omega); (try simp [go_sem] at hr); (try simp [go_sem] at hs); (try simp [go_sem] at hP); (try simp [go_sem] at he); (try simp [go_sem] at fr); (try simp [go_sem] at fs); (try simp [go_sem] at fe); have hW : Below w.heap.size w w2 := below_grown (by (with_reducible (repeat' (first | exact Below.refl _ _ | assumption | apply bl_alloc | apply bl_drewN | apply bl_drew | refine bl_set ?_ ?_ _))) <;> (first | done | (simp; done) | (simp; omega) | omega)) hg (Nat.le_refl _) (by omega); clear hg; simp only [eHad, eNum, eLong, eHow, eTime, eAttrs, At.cells])))
    · have h0 := hR1.at_
      go_region
      all_goals (try go_wp2_with fail)
      all_goals
        refine leaves_cons (f := 30) (args := #[.pointer (some ⟨w.heap.size + 1, 0, none⟩)]) (by simp) (by simp [go_sem]) ?_
        refine (stop_idle _ _).mono ?_
        rintro e u' w3 ⟨rfl, rfl, rfl⟩
        simp (maxDischargeDepth := 8) [Leaves, settle, results, Tryz.results69, go_sem, *]
        refine ⟨by (with_reducible (repeat' (first | exact Below.refl _ _ | assumption | apply bl_alloc | apply bl_drewN | apply bl_drew | refine bl_set ?_ ?_ _))) <;> (first | done | (simp; done) | (simp; omega) | omega), .inl ⟨_, _, HQ1.out.done, hl, ?_⟩⟩
        simp [eSet, St.cells]
    all_goals
      (go_wp2_with fail; refine leaves_cons (f := 30) (args := #[.pointer (some ⟨w.heap.size + 1, 0, none⟩)]) (by simp) (by simp [go_sem]) ?_; refine (stop_panicking _ 0 er _ (by simp [go_sem, *]) (by simp [go_sem, *]) (by simp; try omega)).mono ?_; rintro e u' w3 ⟨rfl, rfl, rfl⟩; simp (maxDischargeDepth := 8) [Leaves, settle, results, Tryz.results69, go_sem, wrDone, *])
      refine ⟨by (with_reducible (repeat' (first | exact Below.refl _ _ | assumption | apply bl_alloc | apply bl_drewN | apply bl_drew | refine bl_set ?_ ?_ _))) <;> (first | done | (simp; done) | (simp; omega) | omega), .inr ⟨er, (‹Hid (pSet xs = Except.error er)›).out, ?_⟩⟩
      simp [eSet, St.cells, St.zero]
  · have HE := Lib.hid (HQ.out.fail hp)
    clear hp
    have hz0 := hg.size; (try simp at hz0); have hz : w.heap.size + 1 + 1 + 1 + 1 < w1.heap.size := (by omega); have hza : w.heap.size < w1.heap.size := (by omega); have hzb : w.heap.size + 1 < w1.heap.size := (by omega); have hzc : w.heap.size + 1 + 1 < w1.heap.size := (by omega); have hzd : w.heap.size + 1 + 1 + 1 < w1.heap.size := (by omega); have hr : ∀ o, w1.cell? ⟨w.heap.size, o, none⟩ = _ := fun o => (gcell hg).1 _ o (by simp; try omega) (by omega); have hs : ∀ o, w1.cell? ⟨w.heap.size + 1 + 1, o, none⟩ = _ := fun o => (gcell hg).1 _ o (by simp; try omega) (by omega); have hP : w1.cell? ⟨w.heap.size + 1 + 1 + 1 + 1, 0, none⟩ = _ := (gcell hg).1 _ 0 (by simp; try omega) (by omega); have he : w1.cell? ⟨w.heap.size + 1, 0, none⟩ = _ := (gcell hg).1 _ 0 (by simp; try omega) (by omega); have fr : ∀ o, w1.frozen? ⟨w.heap.size, o, none⟩ = _ := fun o => (gcell hg).2 _ o (by simp; try omega) (by omega); have fs : ∀ o, w1.frozen? ⟨w.heap.size + 1 + 1, o, none⟩ = _ := fun o => (gcell hg).2 _ o (by simp; try omega) (by omega); have fe : w1.frozen? ⟨w.heap.size + 1, 0, none⟩ = _ := (gcell hg).2 _ 0 (by simp; try omega) (by omega); (try simp [go_sem] at hr); (try simp [go_sem] at hs); (try simp [go_sem] at hP); (try simp [go_sem] at he); (try simp [go_sem] at fr); (try simp [go_sem] at fs); (try simp [go_sem] at fe); have hW : Below w.heap.size w w1 := below_grown (by (with_reducible (repeat' (first | exact Below.refl _ _ | assumption | apply bl_alloc | apply bl_drewN | apply bl_drew | refine bl_set ?_ ?_ _))) <;> (first | done | (simp; done) | (simp; omega) | omega)) hg (Nat.le_refl _) (by omega); clear hg
    (go_wp2_with fail; refine leaves_cons (f := 30) (args := #[.pointer (some ⟨w.heap.size + 1, 0, none⟩)]) (by simp) (by simp [go_sem]) ?_; refine (stop_panicking _ 0 er _ (by simp [go_sem, *]) (by simp [go_sem, *]) (by simp; try omega)).mono ?_; rintro e u' w3 ⟨rfl, rfl, rfl⟩; simp (maxDischargeDepth := 8) [Leaves, settle, results, Tryz.results69, go_sem, wrDone, *])
    refine ⟨by (with_reducible (repeat' (first | exact Below.refl _ _ | assumption | apply bl_alloc | apply bl_drewN | apply bl_drew | refine bl_set ?_ ?_ _))) <;> (first | done | (simp; done) | (simp; omega) | omega), .inr ⟨er, HE.out, ?_⟩⟩
    simp [eSet, St.cells, St.zero]
end
end Go.Proofs.YtgmhapjidbdhnaaGreat
namespace Go.Proofs.YtgmhapjidbdhnaaGreat
open Go.RowKit
def St.wf (s : St) : Prop := s.mode < 4294967296 ∧ s.user < 4294967296 ∧ s.group < 4294967296 ∧ s.size < 18446744073709551616 ∧ s.readHow < 4294967296 ∧ s.read.wf ∧ s.writeHow < 4294967296 ∧ s.write.wf
/-- The parts of what is to be set. -/
def setL (s : St) : List (Except Int (List UInt8)) := [rOpt s.hasMode ((s.mode : Int) == 0) [.ok (put4 s.mode)], rOpt s.hasUser ((s.user : Int) == 0) [.ok (put4 s.user)], rOpt s.hasGroup ((s.group : Int) == 0) [.ok (put4 s.group)], rOpt s.hasSize ((s.size : Int) == 0) [.ok (put8 s.size)], rHow s.readHow s.read, rHow s.writeHow s.write]
def rSet (s : St) : Except Int (List UInt8) := if s.mode ≤ 4095 then catP (setL s) else .error 1
theorem few_one {r : Except Int (List UInt8)} (h : Few r) : ∀ x ∈ [r], Few x := fun x hx => by
  simp only [List.mem_cons, List.not_mem_nil, or_false] at hx; subst hx; exact h
theorem few_opt4 (has zero : Bool) (n : Nat) : Few (rOpt has zero [.ok (put4 n)]) := few_opt has zero _ (fun r hr c e => by
  simp only [List.mem_cons, List.not_mem_nil, or_false] at hr; subst hr; injection e with e; subst e; simp) (by simp)
theorem few_opt8 (has zero : Bool) (n : Nat) : Few (rOpt has zero [.ok (put8 n)]) := few_opt has zero _ (fun r hr c e => by
  simp only [List.mem_cons, List.not_mem_nil, or_false] at hr; subst hr; injection e with e; subst e; simp) (by simp)
theorem few_setL (s : St) : ∀ r ∈ setL s, Few r := by
  intro r hr
  simp only [setL, List.mem_cons, List.not_mem_nil, or_false] at hr
  rcases hr with rfl | rfl | rfl | rfl | rfl | rfl
  all_goals first | exact few_opt4 _ _ _ | exact few_opt8 _ _ _ | exact few_how _ _
theorem all_set (s : St) (g cap : Nat) (w' : World) (h : PartsB w' g (setL s)) : Calls Tryz.prog 32 #[.slice (some ⟨g, 0, none⟩) 6 cap] w' (GivesPost (catP (setL s)) w') :=
  all_any (setL s) g 6 cap rfl (by omega) (few_setL s) w' h
theorem opt_one {w : World} {r : Except Int (List UInt8)} (has zero : Bool) {fv : Value} {t : TypeId} (hf : Few r) (g : Gives w fv r) {cap : Nat} :
    Calls Tryz.prog 33 #[.bool has, .bool zero, .slice (some ⟨w.heap.size, 0, none⟩) 1 cap] (w.alloc (.cells #[fv] t)) (MakesPost (rOpt has zero [r]) (w.alloc (.cells #[fv] t))) :=
  option_mk (n := 1) has zero rfl (by omega) (by omega) (few_one hf) (PartsB.new [(fv, r)] (fun p hp => by
    simp only [List.mem_cons, List.not_mem_nil, or_false] at hp; subst hp; exact g))
set_option maxRecDepth 100000 in
set_option maxHeartbeats 8000000 in
theorem PutSet_go {s : St} {w : World} (hs : s.wf) (hm : s.mode ≤ 4095) : Calls Tryz.prog 21 #[eSet s] w (PutPost (catP (setL s)) w) := by
  have HA := Lib.hid (all_set s)
  have hd : decide ((s.mode : Int) ≤ 4095) = true := by simp; omega
  have HS := Lib.hid hs
  clear hs hm
  simp only [eSet, St.cells]
  go_enter_defers Tryz.func21, Tryz.ntmps21
  go_wp2_with (go_at_call 31; (try rw [hd]); refine (must_yes _ _).mono ?_; rintro e w' ⟨rfl, rfl⟩)
  obtain ⟨wz, hwz⟩ : ∃ wz, (w.alloc (.cells #[.bool s.hasMode, .int .u32 s.mode, .bool s.hasUser, .int .u32 s.user, .bool s.hasGroup, .int .u32 s.group, .bool s.hasSize, .int .u64 s.size, .int .u32 s.readHow, .int .u32 s.read.sec, .int .u32 s.read.nano, .int .u32 s.writeHow, .int .u32 s.write.sec, .int .u32 s.write.nano] 30)).alloc (.cells #[.int .i64 0] 37) = wz := ⟨_, rfl⟩
  rw [hwz]
  have hBz : Below w.heap.size w wz := by rw [← hwz]; (with_reducible (repeat' (first | exact Below.refl _ _ | assumption | apply bl_alloc | apply bl_drewN | apply bl_drew | refine bl_set ?_ ?_ _))) <;> (first | done | (simp; done) | (simp; omega) | omega)
  have hz0 : w.heap.size < wz.heap.size := by rw [← hwz]; simp; try omega
  have hz1 : w.heap.size + 1 < wz.heap.size := by rw [← hwz]; simp
  have ho : (∀ o, wz.cell? ⟨w.heap.size, o, none⟩ = [Value.bool s.hasMode, .int .u32 s.mode, .bool s.hasUser, .int .u32 s.user, .bool s.hasGroup, .int .u32 s.group, .bool s.hasSize, .int .u64 s.size, .int .u32 s.readHow, .int .u32 s.read.sec, .int .u32 s.read.nano, .int .u32 s.writeHow, .int .u32 s.write.sec, .int .u32 s.write.nano][o]?) ∧ wz.cell? ⟨w.heap.size + 1, 0, none⟩ = some (.int .i64 0) ∧ wz.frozen? ⟨w.heap.size + 1, 0, none⟩ = false := by rw [← hwz]; exact ⟨fun o => by simp [go_sem], by simp [go_sem], by simp [go_sem]⟩
  have HO := Lib.hid ho
  clear hwz ho
  have hk0 := HO.out.1; have hk1 := HO.out.2.1; have hk2 := HO.out.2.2
  have GG := Lib.hid (GL.nil wz.drew)
  have hB : Below wz.heap.size wz wz.drew := (Below.refl _ _).drew
  refine Code.wp_mono (Q := KQ ?K (fun c wx => ∃ er, catP (setL s) = .error er ∧ c = wr er ∧ Below w.heap.size w wx ∧ wx.cell? ⟨w.heap.size + 1, 0, none⟩ = some (.int .i64 0) ∧ wx.frozen? ⟨w.heap.size + 1, 0, none⟩ = false ∧ w.heap.size + 1 < wx.heap.size) [{ target := Target.fn (Fn.func 30) #[], args := #[.pointer (some ⟨w.heap.size + 1, 0, none⟩)] }] (.slice none 0 0) (.pointer (some ⟨w.heap.size + 1, 0, none⟩))) ?imp ?reg
  case imp =>
    intro e a wx h
    cases e with
    | normal => exact h
    | panic c =>
      obtain ⟨⟨er, hr, rfl, hbx, hc, hf, hzx⟩, hD, ht, hp⟩ := h
      show Leaves _ _ a.tmps _ a.defers (.panicking (wr er)) wx
      rw [hD]
      refine leaves_cons (f := 30) (args := #[.pointer (some ⟨w.heap.size + 1, 0, none⟩)]) (by simp) (by simp [go_sem]) ?_
      refine (stop_panicking _ 0 er _ hc hf hzx).mono ?_
      rintro e u' w3 ⟨rfl, rfl, rfl⟩
      simp (maxDischargeDepth := 8) [Leaves, settle, results, Tryz.results21, go_sem, wrDone, hc, hf, hzx, ht, hp]
      exact ⟨by (with_reducible (repeat' (first | exact Below.refl _ _ | assumption | apply bl_alloc | apply bl_drewN | apply bl_drew | refine bl_set ?_ ?_ _))) <;> (first | done | (simp; done) | (simp; omega) | omega), .inr ⟨er, hr, rfl⟩⟩
    | exit _ => exact (h : False).elim
    | goto _ => exact (h : False).elim
    | ret => exact (h : False).elim
    | outgrown => exact (h : False).elim
  case reg =>
    first | (go_region_held_law (fun wx => (∀ o, wx.cell? ⟨w.heap.size, o, none⟩ = [Value.bool s.hasMode, .int .u32 s.mode, .bool s.hasUser, .int .u32 s.user, .bool s.hasGroup, .int .u32 s.group, .bool s.hasSize, .int .u64 s.size, .int .u32 s.readHow, .int .u32 s.read.sec, .int .u32 s.read.nano, .int .u32 s.writeHow, .int .u32 s.write.sec, .int .u32 s.write.nano][o]?) ∧ wx.cell? ⟨w.heap.size + 1, 0, none⟩ = some (.int .i64 0) ∧ wx.frozen? ⟨w.heap.size + 1, 0, none⟩ = false) (first | (exact keep_alloc _ hk0 hk1 hk2 hgl hgl1) | (exact keep_set hk0 hk1 hk2 (by omega)) | (go_keep)) (first
      | (go_at_call_of 34 (Value.int .u32 (s.mode : Int)); refine Calls.mono (number_mk s.mode HS.out.1 _) ?_; rintro e w1 hm; (obtain ⟨f1, cp1, rfl, G1, b1⟩ := hm.get); clear hm; (have hB : Below wz.heap.size wz w1 := bl_then (by (with_reducible (repeat' (first | exact Below.refl _ _ | assumption | apply bl_alloc | apply bl_drewN | apply bl_drew | refine bl_set ?_ ?_ _))) <;> (first | done | (simp; done) | (simp; omega) | omega)) b1); (have hk0 : ∀ o, w1.cell? ⟨w.heap.size, o, none⟩ = [Value.bool s.hasMode, .int .u32 s.mode, .bool s.hasUser, .int .u32 s.user, .bool s.hasGroup, .int .u32 s.group, .bool s.hasSize, .int .u64 s.size, .int .u32 s.readHow, .int .u32 s.read.sec, .int .u32 s.read.nano, .int .u32 s.writeHow, .int .u32 s.write.sec, .int .u32 s.write.nano][o]? := fun o => (hB.cell (p := ⟨w.heap.size, o, none⟩) hz0).trans (HO.out.1 o)); (have hk1 : w1.cell? ⟨w.heap.size + 1, 0, none⟩ = some (.int .i64 0) := (hB.cell (p := ⟨w.heap.size + 1, 0, none⟩) hz1).trans HO.out.2.1); (have hk2 : w1.frozen? ⟨w.heap.size + 1, 0, none⟩ = false := (hB.frozen (p := ⟨w.heap.size + 1, 0, none⟩) hz1).trans HO.out.2.2); (have hgl : w.heap.size < w1.heap.size := Nat.lt_of_lt_of_le hz0 hB.size); (have hgl1 : w.heap.size + 1 < w1.heap.size := Nat.lt_of_lt_of_le hz1 hB.size); (have GN := Lib.hid G1); (have GG := Lib.hid (GG.out.below b1)); clear b1 G1)
      | (go_at_call_of 34 (Value.int .u32 (s.user : Int)); refine Calls.mono (number_mk s.user HS.out.2.1 _) ?_; rintro e w1 hm; (obtain ⟨f1, cp1, rfl, G1, b1⟩ := hm.get); clear hm; (have hB : Below wz.heap.size wz w1 := bl_then (by (with_reducible (repeat' (first | exact Below.refl _ _ | assumption | apply bl_alloc | apply bl_drewN | apply bl_drew | refine bl_set ?_ ?_ _))) <;> (first | done | (simp; done) | (simp; omega) | omega)) b1); (have hk0 : ∀ o, w1.cell? ⟨w.heap.size, o, none⟩ = [Value.bool s.hasMode, .int .u32 s.mode, .bool s.hasUser, .int .u32 s.user, .bool s.hasGroup, .int .u32 s.group, .bool s.hasSize, .int .u64 s.size, .int .u32 s.readHow, .int .u32 s.read.sec, .int .u32 s.read.nano, .int .u32 s.writeHow, .int .u32 s.write.sec, .int .u32 s.write.nano][o]? := fun o => (hB.cell (p := ⟨w.heap.size, o, none⟩) hz0).trans (HO.out.1 o)); (have hk1 : w1.cell? ⟨w.heap.size + 1, 0, none⟩ = some (.int .i64 0) := (hB.cell (p := ⟨w.heap.size + 1, 0, none⟩) hz1).trans HO.out.2.1); (have hk2 : w1.frozen? ⟨w.heap.size + 1, 0, none⟩ = false := (hB.frozen (p := ⟨w.heap.size + 1, 0, none⟩) hz1).trans HO.out.2.2); (have hgl : w.heap.size < w1.heap.size := Nat.lt_of_lt_of_le hz0 hB.size); (have hgl1 : w.heap.size + 1 < w1.heap.size := Nat.lt_of_lt_of_le hz1 hB.size); (have GN := Lib.hid G1); (have GG := Lib.hid (GG.out.below b1)); clear b1 G1)
      | (go_at_call_of 34 (Value.int .u32 (s.group : Int)); refine Calls.mono (number_mk s.group HS.out.2.2.1 _) ?_; rintro e w1 hm; (obtain ⟨f1, cp1, rfl, G1, b1⟩ := hm.get); clear hm; (have hB : Below wz.heap.size wz w1 := bl_then (by (with_reducible (repeat' (first | exact Below.refl _ _ | assumption | apply bl_alloc | apply bl_drewN | apply bl_drew | refine bl_set ?_ ?_ _))) <;> (first | done | (simp; done) | (simp; omega) | omega)) b1); (have hk0 : ∀ o, w1.cell? ⟨w.heap.size, o, none⟩ = [Value.bool s.hasMode, .int .u32 s.mode, .bool s.hasUser, .int .u32 s.user, .bool s.hasGroup, .int .u32 s.group, .bool s.hasSize, .int .u64 s.size, .int .u32 s.readHow, .int .u32 s.read.sec, .int .u32 s.read.nano, .int .u32 s.writeHow, .int .u32 s.write.sec, .int .u32 s.write.nano][o]? := fun o => (hB.cell (p := ⟨w.heap.size, o, none⟩) hz0).trans (HO.out.1 o)); (have hk1 : w1.cell? ⟨w.heap.size + 1, 0, none⟩ = some (.int .i64 0) := (hB.cell (p := ⟨w.heap.size + 1, 0, none⟩) hz1).trans HO.out.2.1); (have hk2 : w1.frozen? ⟨w.heap.size + 1, 0, none⟩ = false := (hB.frozen (p := ⟨w.heap.size + 1, 0, none⟩) hz1).trans HO.out.2.2); (have hgl : w.heap.size < w1.heap.size := Nat.lt_of_lt_of_le hz0 hB.size); (have hgl1 : w.heap.size + 1 < w1.heap.size := Nat.lt_of_lt_of_le hz1 hB.size); (have GN := Lib.hid G1); (have GG := Lib.hid (GG.out.below b1)); clear b1 G1)
      | (go_at_call_of 35 (Value.int .u64 (s.size : Int)); refine Calls.mono (long_mk s.size HS.out.2.2.2.1 _) ?_; rintro e w1 hm; (obtain ⟨f1, cp1, rfl, G1, b1⟩ := hm.get); clear hm; (have hB : Below wz.heap.size wz w1 := bl_then (by (with_reducible (repeat' (first | exact Below.refl _ _ | assumption | apply bl_alloc | apply bl_drewN | apply bl_drew | refine bl_set ?_ ?_ _))) <;> (first | done | (simp; done) | (simp; omega) | omega)) b1); (have hk0 : ∀ o, w1.cell? ⟨w.heap.size, o, none⟩ = [Value.bool s.hasMode, .int .u32 s.mode, .bool s.hasUser, .int .u32 s.user, .bool s.hasGroup, .int .u32 s.group, .bool s.hasSize, .int .u64 s.size, .int .u32 s.readHow, .int .u32 s.read.sec, .int .u32 s.read.nano, .int .u32 s.writeHow, .int .u32 s.write.sec, .int .u32 s.write.nano][o]? := fun o => (hB.cell (p := ⟨w.heap.size, o, none⟩) hz0).trans (HO.out.1 o)); (have hk1 : w1.cell? ⟨w.heap.size + 1, 0, none⟩ = some (.int .i64 0) := (hB.cell (p := ⟨w.heap.size + 1, 0, none⟩) hz1).trans HO.out.2.1); (have hk2 : w1.frozen? ⟨w.heap.size + 1, 0, none⟩ = false := (hB.frozen (p := ⟨w.heap.size + 1, 0, none⟩) hz1).trans HO.out.2.2); (have hgl : w.heap.size < w1.heap.size := Nat.lt_of_lt_of_le hz0 hB.size); (have hgl1 : w.heap.size + 1 < w1.heap.size := Nat.lt_of_lt_of_le hz1 hB.size); (have GN := Lib.hid G1); (have GG := Lib.hid (GG.out.below b1)); clear b1 G1)
      | (go_at_call_of 33 (Value.bool s.hasMode); refine Calls.mono (opt_one s.hasMode ((s.mode : Int) == 0) (few_put4 _) GN.out) ?_; rintro e w1 hm; (obtain ⟨f1, cp1, rfl, G1, b1⟩ := hm.get); clear hm; (have hB : Below wz.heap.size wz w1 := bl_then (by (with_reducible (repeat' (first | exact Below.refl _ _ | assumption | apply bl_alloc | apply bl_drewN | apply bl_drew | refine bl_set ?_ ?_ _))) <;> (first | done | (simp; done) | (simp; omega) | omega)) b1); (have hk0 : ∀ o, w1.cell? ⟨w.heap.size, o, none⟩ = [Value.bool s.hasMode, .int .u32 s.mode, .bool s.hasUser, .int .u32 s.user, .bool s.hasGroup, .int .u32 s.group, .bool s.hasSize, .int .u64 s.size, .int .u32 s.readHow, .int .u32 s.read.sec, .int .u32 s.read.nano, .int .u32 s.writeHow, .int .u32 s.write.sec, .int .u32 s.write.nano][o]? := fun o => (hB.cell (p := ⟨w.heap.size, o, none⟩) hz0).trans (HO.out.1 o)); (have hk1 : w1.cell? ⟨w.heap.size + 1, 0, none⟩ = some (.int .i64 0) := (hB.cell (p := ⟨w.heap.size + 1, 0, none⟩) hz1).trans HO.out.2.1); (have hk2 : w1.frozen? ⟨w.heap.size + 1, 0, none⟩ = false := (hB.frozen (p := ⟨w.heap.size + 1, 0, none⟩) hz1).trans HO.out.2.2); (have hgl : w.heap.size < w1.heap.size := Nat.lt_of_lt_of_le hz0 hB.size); (have hgl1 : w.heap.size + 1 < w1.heap.size := Nat.lt_of_lt_of_le hz1 hB.size); (have GG := Lib.hid (GG.out.snoc (bl_then (by (with_reducible (repeat' (first | exact Below.refl _ _ | assumption | apply bl_alloc | apply bl_drewN | apply bl_drew | refine bl_set ?_ ?_ _))) <;> (first | done | (simp; done) | (simp; omega) | omega)) b1) G1)); clear b1 G1)
      | (go_at_call_of 33 (Value.bool s.hasUser); refine Calls.mono (opt_one s.hasUser ((s.user : Int) == 0) (few_put4 _) GN.out) ?_; rintro e w1 hm; (obtain ⟨f1, cp1, rfl, G1, b1⟩ := hm.get); clear hm; (have hB : Below wz.heap.size wz w1 := bl_then (by (with_reducible (repeat' (first | exact Below.refl _ _ | assumption | apply bl_alloc | apply bl_drewN | apply bl_drew | refine bl_set ?_ ?_ _))) <;> (first | done | (simp; done) | (simp; omega) | omega)) b1); (have hk0 : ∀ o, w1.cell? ⟨w.heap.size, o, none⟩ = [Value.bool s.hasMode, .int .u32 s.mode, .bool s.hasUser, .int .u32 s.user, .bool s.hasGroup, .int .u32 s.group, .bool s.hasSize, .int .u64 s.size, .int .u32 s.readHow, .int .u32 s.read.sec, .int .u32 s.read.nano, .int .u32 s.writeHow, .int .u32 s.write.sec, .int .u32 s.write.nano][o]? := fun o => (hB.cell (p := ⟨w.heap.size, o, none⟩) hz0).trans (HO.out.1 o)); (have hk1 : w1.cell? ⟨w.heap.size + 1, 0, none⟩ = some (.int .i64 0) := (hB.cell (p := ⟨w.heap.size + 1, 0, none⟩) hz1).trans HO.out.2.1); (have hk2 : w1.frozen? ⟨w.heap.size + 1, 0, none⟩ = false := (hB.frozen (p := ⟨w.heap.size + 1, 0, none⟩) hz1).trans HO.out.2.2); (have hgl : w.heap.size < w1.heap.size := Nat.lt_of_lt_of_le hz0 hB.size); (have hgl1 : w.heap.size + 1 < w1.heap.size := Nat.lt_of_lt_of_le hz1 hB.size); (have GG := Lib.hid (GG.out.snoc (bl_then (by (with_reducible (repeat' (first | exact Below.refl _ _ | assumption | apply bl_alloc | apply bl_drewN | apply bl_drew | refine bl_set ?_ ?_ _))) <;> (first | done | (simp; done) | (simp; omega) | omega)) b1) G1)); clear b1 G1)
      | (go_at_call_of 33 (Value.bool s.hasGroup); refine Calls.mono (opt_one s.hasGroup ((s.group : Int) == 0) (few_put4 _) GN.out) ?_; rintro e w1 hm; (obtain ⟨f1, cp1, rfl, G1, b1⟩ := hm.get); clear hm; (have hB : Below wz.heap.size wz w1 := bl_then (by (with_reducible (repeat' (first | exact Below.refl _ _ | assumption | apply bl_alloc | apply bl_drewN | apply bl_drew | refine bl_set ?_ ?_ _))) <;> (first | done | (simp; done) | (simp; omega) | omega)) b1); (have hk0 : ∀ o, w1.cell? ⟨w.heap.size, o, none⟩ = [Value.bool s.hasMode, .int .u32 s.mode, .bool s.hasUser, .int .u32 s.user, .bool s.hasGroup, .int .u32 s.group, .bool s.hasSize, .int .u64 s.size, .int .u32 s.readHow, .int .u32 s.read.sec, .int .u32 s.read.nano, .int .u32 s.writeHow, .int .u32 s.write.sec, .int .u32 s.write.nano][o]? := fun o => (hB.cell (p := ⟨w.heap.size, o, none⟩) hz0).trans (HO.out.1 o)); (have hk1 : w1.cell? ⟨w.heap.size + 1, 0, none⟩ = some (.int .i64 0) := (hB.cell (p := ⟨w.heap.size + 1, 0, none⟩) hz1).trans HO.out.2.1); (have hk2 : w1.frozen? ⟨w.heap.size + 1, 0, none⟩ = false := (hB.frozen (p := ⟨w.heap.size + 1, 0, none⟩) hz1).trans HO.out.2.2); (have hgl : w.heap.size < w1.heap.size := Nat.lt_of_lt_of_le hz0 hB.size); (have hgl1 : w.heap.size + 1 < w1.heap.size := Nat.lt_of_lt_of_le hz1 hB.size); (have GG := Lib.hid (GG.out.snoc (bl_then (by (with_reducible (repeat' (first | exact Below.refl _ _ | assumption | apply bl_alloc | apply bl_drewN | apply bl_drew | refine bl_set ?_ ?_ _))) <;> (first | done | (simp; done) | (simp; omega) | omega)) b1) G1)); clear b1 G1)
      | (go_at_call_of 33 (Value.bool s.hasSize); refine Calls.mono (opt_one s.hasSize ((s.size : Int) == 0) (few_put8 _) GN.out) ?_; rintro e w1 hm; (obtain ⟨f1, cp1, rfl, G1, b1⟩ := hm.get); clear hm; (have hB : Below wz.heap.size wz w1 := bl_then (by (with_reducible (repeat' (first | exact Below.refl _ _ | assumption | apply bl_alloc | apply bl_drewN | apply bl_drew | refine bl_set ?_ ?_ _))) <;> (first | done | (simp; done) | (simp; omega) | omega)) b1); (have hk0 : ∀ o, w1.cell? ⟨w.heap.size, o, none⟩ = [Value.bool s.hasMode, .int .u32 s.mode, .bool s.hasUser, .int .u32 s.user, .bool s.hasGroup, .int .u32 s.group, .bool s.hasSize, .int .u64 s.size, .int .u32 s.readHow, .int .u32 s.read.sec, .int .u32 s.read.nano, .int .u32 s.writeHow, .int .u32 s.write.sec, .int .u32 s.write.nano][o]? := fun o => (hB.cell (p := ⟨w.heap.size, o, none⟩) hz0).trans (HO.out.1 o)); (have hk1 : w1.cell? ⟨w.heap.size + 1, 0, none⟩ = some (.int .i64 0) := (hB.cell (p := ⟨w.heap.size + 1, 0, none⟩) hz1).trans HO.out.2.1); (have hk2 : w1.frozen? ⟨w.heap.size + 1, 0, none⟩ = false := (hB.frozen (p := ⟨w.heap.size + 1, 0, none⟩) hz1).trans HO.out.2.2); (have hgl : w.heap.size < w1.heap.size := Nat.lt_of_lt_of_le hz0 hB.size); (have hgl1 : w.heap.size + 1 < w1.heap.size := Nat.lt_of_lt_of_le hz1 hB.size); (have GG := Lib.hid (GG.out.snoc (bl_then (by (with_reducible (repeat' (first | exact Below.refl _ _ | assumption | apply bl_alloc | apply bl_drewN | apply bl_drew | refine bl_set ?_ ?_ _))) <;> (first | done | (simp; done) | (simp; omega) | omega)) b1) G1)); clear b1 G1)
      | (go_at_call_of 36 (Value.int .u32 (s.readHow : Int)); refine Calls.mono (how_mk (h := s.readHow) (t := s.read) HS.out.2.2.2.2.2.1) ?_; rintro e w1 hm; (obtain ⟨f1, cp1, rfl, G1, b1⟩ := hm.get); clear hm; (have hB : Below wz.heap.size wz w1 := bl_then (by (with_reducible (repeat' (first | exact Below.refl _ _ | assumption | apply bl_alloc | apply bl_drewN | apply bl_drew | refine bl_set ?_ ?_ _))) <;> (first | done | (simp; done) | (simp; omega) | omega)) b1); (have hk0 : ∀ o, w1.cell? ⟨w.heap.size, o, none⟩ = [Value.bool s.hasMode, .int .u32 s.mode, .bool s.hasUser, .int .u32 s.user, .bool s.hasGroup, .int .u32 s.group, .bool s.hasSize, .int .u64 s.size, .int .u32 s.readHow, .int .u32 s.read.sec, .int .u32 s.read.nano, .int .u32 s.writeHow, .int .u32 s.write.sec, .int .u32 s.write.nano][o]? := fun o => (hB.cell (p := ⟨w.heap.size, o, none⟩) hz0).trans (HO.out.1 o)); (have hk1 : w1.cell? ⟨w.heap.size + 1, 0, none⟩ = some (.int .i64 0) := (hB.cell (p := ⟨w.heap.size + 1, 0, none⟩) hz1).trans HO.out.2.1); (have hk2 : w1.frozen? ⟨w.heap.size + 1, 0, none⟩ = false := (hB.frozen (p := ⟨w.heap.size + 1, 0, none⟩) hz1).trans HO.out.2.2); (have hgl : w.heap.size < w1.heap.size := Nat.lt_of_lt_of_le hz0 hB.size); (have hgl1 : w.heap.size + 1 < w1.heap.size := Nat.lt_of_lt_of_le hz1 hB.size); (have GG := Lib.hid (GG.out.snoc (bl_then (by (with_reducible (repeat' (first | exact Below.refl _ _ | assumption | apply bl_alloc | apply bl_drewN | apply bl_drew | refine bl_set ?_ ?_ _))) <;> (first | done | (simp; done) | (simp; omega) | omega)) b1) G1)); clear b1 G1)
      | (go_at_call_of 36 (Value.int .u32 (s.writeHow : Int)); refine Calls.mono (how_mk (h := s.writeHow) (t := s.write) HS.out.2.2.2.2.2.2.2) ?_; rintro e w1 hm; (obtain ⟨f1, cp1, rfl, G1, b1⟩ := hm.get); clear hm; (have hB : Below wz.heap.size wz w1 := bl_then (by (with_reducible (repeat' (first | exact Below.refl _ _ | assumption | apply bl_alloc | apply bl_drewN | apply bl_drew | refine bl_set ?_ ?_ _))) <;> (first | done | (simp; done) | (simp; omega) | omega)) b1); (have hk0 : ∀ o, w1.cell? ⟨w.heap.size, o, none⟩ = [Value.bool s.hasMode, .int .u32 s.mode, .bool s.hasUser, .int .u32 s.user, .bool s.hasGroup, .int .u32 s.group, .bool s.hasSize, .int .u64 s.size, .int .u32 s.readHow, .int .u32 s.read.sec, .int .u32 s.read.nano, .int .u32 s.writeHow, .int .u32 s.write.sec, .int .u32 s.write.nano][o]? := fun o => (hB.cell (p := ⟨w.heap.size, o, none⟩) hz0).trans (HO.out.1 o)); (have hk1 : w1.cell? ⟨w.heap.size + 1, 0, none⟩ = some (.int .i64 0) := (hB.cell (p := ⟨w.heap.size + 1, 0, none⟩) hz1).trans HO.out.2.1); (have hk2 : w1.frozen? ⟨w.heap.size + 1, 0, none⟩ = false := (hB.frozen (p := ⟨w.heap.size + 1, 0, none⟩) hz1).trans HO.out.2.2); (have hgl : w.heap.size < w1.heap.size := Nat.lt_of_lt_of_le hz0 hB.size); (have hgl1 : w.heap.size + 1 < w1.heap.size := Nat.lt_of_lt_of_le hz1 hB.size); (have GG := Lib.hid (GG.out.snoc (bl_then (by (with_reducible (repeat' (first | exact Below.refl _ _ | assumption | apply bl_alloc | apply bl_drewN | apply bl_drew | refine bl_set ?_ ?_ _))) <;> (first | done | (simp; done) | (simp; omega) | omega)) b1) G1)); clear b1 G1)
      | (go_at_call 32; refine Calls.mono (HA.out _ _ _ (PartsB.new [_, _, _, _, _, _] GG.out)) ?_; rintro e w3 ⟨b3, ⟨bs, v3, hr, rfl, o3⟩ | ⟨er, hr, rfl⟩⟩; rotate_left; ((have hB3 : Below wz.heap.size wz w3 := bl_then (by (with_reducible (repeat' (first | exact Below.refl _ _ | assumption | apply bl_alloc | apply bl_drewN | apply bl_drew | refine bl_set ?_ ?_ _))) <;> (first | done | (simp; done) | (simp; omega) | omega)) b3); exact ⟨⟨er, hr, rfl, bl_then hBz hB3, (hB3.cell (p := ⟨w.heap.size + 1, 0, none⟩) hz1).trans HO.out.2.1, (hB3.frozen (p := ⟨w.heap.size + 1, 0, none⟩) hz1).trans HO.out.2.2, Nat.lt_of_lt_of_le hz1 hB3.size⟩, rfl, rfl, rfl⟩); ((obtain ⟨A3, c3, hv3, h31, h32, h33⟩ := o3.reads); (rw [hv3] at o3 ⊢); clear hv3 h31 h32 h33; (have hB3 : Below wz.heap.size wz w3 := bl_then (by (with_reducible (repeat' (first | exact Below.refl _ _ | assumption | apply bl_alloc | apply bl_drewN | apply bl_drew | refine bl_set ?_ ?_ _))) <;> (first | done | (simp; done) | (simp; omega) | omega)) b3); (have hk0 : ∀ o, w3.cell? ⟨w.heap.size, o, none⟩ = [Value.bool s.hasMode, .int .u32 s.mode, .bool s.hasUser, .int .u32 s.user, .bool s.hasGroup, .int .u32 s.group, .bool s.hasSize, .int .u64 s.size, .int .u32 s.readHow, .int .u32 s.read.sec, .int .u32 s.read.nano, .int .u32 s.writeHow, .int .u32 s.write.sec, .int .u32 s.write.nano][o]? := fun o => (hB3.cell (p := ⟨w.heap.size, o, none⟩) hz0).trans (HO.out.1 o)); (have hk1 : w3.cell? ⟨w.heap.size + 1, 0, none⟩ = some (.int .i64 0) := (hB3.cell (p := ⟨w.heap.size + 1, 0, none⟩) hz1).trans HO.out.2.1); (have hk2 : w3.frozen? ⟨w.heap.size + 1, 0, none⟩ = false := (hB3.frozen (p := ⟨w.heap.size + 1, 0, none⟩) hz1).trans HO.out.2.2); (have hgl : w.heap.size < w3.heap.size := Nat.lt_of_lt_of_le hz0 hB3.size); (have hgl1 : w.heap.size + 1 < w3.heap.size := Nat.lt_of_lt_of_le hz1 hB3.size); (have HR := Lib.hid hr); clear hr)))) | fail "no way"
    dsimp only [KQ]
    go_wp2
    refine leaves_cons (f := 30) (args := #[.pointer (some ⟨w.heap.size + 1, 0, none⟩)]) (by simp) (by simp [go_sem]) ?_
    refine (stop_idle _ _).mono ?_
    rintro e u' w3 ⟨rfl, rfl, rfl⟩
    simp (maxDischargeDepth := 8) [Leaves, settle, results, Tryz.results21, go_sem, *]
    have hBw : Below w.heap.size w w3 := bl_then hBz hB3
    exact ⟨by (with_reducible (repeat' (first | exact Below.refl _ _ | assumption | apply bl_alloc | apply bl_drewN | apply bl_drew | refine bl_set ?_ ?_ _))) <;> (first | done | (simp; done) | (simp; omega) | omega), .inl ⟨bs, _, HR.out, rfl, ((o3.set (by simp; omega) _).alloc _).mono (by simp; omega)⟩⟩
end Go.Proofs.YtgmhapjidbdhnaaGreat
namespace Go.Proofs.YtgmhapjidbdhnaaGreat
open Go.RowKit
set_option maxRecDepth 100000 in
set_option maxHeartbeats 8000000 in
theorem PutSet_bad {s : St} {w : World} (hm : ¬ s.mode ≤ 4095) : Calls Tryz.prog 21 #[eSet s] w (PutPost (.error 1) w) := by
  have hd : decide ((s.mode : Int) ≤ 4095) = false := by simp; omega
  clear hm
  simp only [eSet, St.cells]
  go_enter_defers Tryz.func21, Tryz.ntmps21
  go_wp2_with (go_at_call 31; (try rw [hd]); refine (must_no _ _).mono ?_; rintro e w' ⟨rfl, rfl⟩)
  refine leaves_cons (f := 30) (args := #[.pointer (some ⟨w.heap.size + 1, 0, none⟩)]) (by simp) (by simp [go_sem]) ?_
  refine (stop_panicking _ 0 1 _ (by simp [go_sem]) (by simp [go_sem]) (by simp)).mono ?_
  rintro e u' w3 ⟨rfl, rfl, rfl⟩
  simp (maxDischargeDepth := 8) [Leaves, settle, results, Tryz.results21, go_sem, wrDone]
  exact ⟨by (with_reducible (repeat' (first | exact Below.refl _ _ | assumption | apply bl_alloc | apply bl_drewN | apply bl_drew | refine bl_set ?_ ?_ _))) <;> (first | done | (simp; done) | (simp; omega) | omega), .inr ⟨1, rfl, rfl⟩⟩
theorem PutSet_any {s : St} {w : World} (hs : s.wf) : Calls Tryz.prog 21 #[eSet s] w (PutPost (rSet s) w) := by
  by_cases hm : s.mode ≤ 4095
  · rw [rSet, if_pos hm]; exact PutSet_go hs hm
  · rw [rSet, if_neg hm]; exact PutSet_bad hm
end Go.Proofs.YtgmhapjidbdhnaaGreat
namespace Go.Proofs.YtgmhapjidbdhnaaGreat
open Go.RowKit
def Wk.cells (s : Wk) : Array Value := #[.bool s.hasBefore, .int .u64 s.size, .int .u32 s.write.sec, .int .u32 s.write.nano, .int .u32 s.turn.sec, .int .u32 s.turn.nano, .bool s.hasAfter, .int .u32 s.after.kind, .int .u32 s.after.mode, .int .u32 s.after.links, .int .u32 s.after.user, .int .u32 s.after.group, .int .u64 s.after.size, .int .u64 s.after.used, .int .u64 s.after.id, .int .u32 s.after.read.sec, .int .u32 s.after.read.nano, .int .u32 s.after.write.sec, .int .u32 s.after.write.nano, .int .u32 s.after.turn.sec, .int .u32 s.after.turn.nano]
def eWeak (s : Wk) : Value := .agg s.cells
section
variable {A : Option Addr} {n cap : Nat} {xs : List UInt8} {w : World}
theorem weak_true {xs : List UInt8} {k : Nat} (h : Goes pWeak xs k (Ps.bind (if true = true then Ps.bind pBefore fun x => Ps.pure (x, true) else Ps.pure ((0, ⟨0, 0⟩, ⟨0, 0⟩), false)) fun b => Ps.bind (pHad pAttrs At.zero) fun a => Ps.pure ⟨b.2, b.1.1, b.1.2.1, b.1.2.2, a.2, a.1⟩)) :
    Goes pWeak xs k (Ps.bind pLong fun s => Ps.bind pTime fun u => Ps.bind pTime fun t => Ps.bind (pHad pAttrs At.zero) fun a => Ps.pure ⟨true, s, u, t, a.2, a.1⟩) := by
  simpa only [if_true, pBefore, Ps.bind_assoc, Ps.pure_bind] using h
end
end Go.Proofs.YtgmhapjidbdhnaaGreat
namespace Go.Proofs.YtgmhapjidbdhnaaGreat
open Go.RowKit
def Wk.wf (k : Wk) : Prop := k.size < 18446744073709551616 ∧ k.write.wf ∧ k.turn.wf ∧ k.after.wf
/-- Is what was told ahead zero? -/
def zB (k : Wk) : Bool := decide (k.size = 0 ∧ k.write.sec = 0 ∧ k.write.nano = 0 ∧ k.turn.sec = 0 ∧ k.turn.nano = 0)
/-- The parts of what was told ahead and behind. -/
def weakL (k : Wk) : List (Except Int (List UInt8)) := [rOpt k.hasBefore (zB k) [.ok (put8 k.size), rTime k.write, rTime k.turn], rOpt k.hasAfter (k.after == At.zero) [rTold k.after]]
theorem opt_three {w : World} {r1 r2 r3 : Except Int (List UInt8)} (has zero : Bool) {v1 v2 v3 : Value} {t : TypeId} (h1 : Few r1) (h2 : Few r2) (h3 : Few r3) (g : GL w [(v1, r1), (v2, r2), (v3, r3)]) {cap : Nat} :
    Calls Tryz.prog 33 #[.bool has, .bool zero, .slice (some ⟨w.heap.size, 0, none⟩) 3 cap] (w.alloc (.cells #[v1, v2, v3] t)) (MakesPost (rOpt has zero [r1, r2, r3]) (w.alloc (.cells #[v1, v2, v3] t))) :=
  option_mk (n := 3) has zero rfl (by omega) (by omega) (fun x hx => by
    simp only [List.mem_cons, List.not_mem_nil, or_false] at hx; rcases hx with rfl | rfl | rfl
    · exact h1
    · exact h2
    · exact h3) (PartsB.new [(v1, r1), (v2, r2), (v3, r3)] g)
theorem few_weakL (k : Wk) : ∀ r ∈ weakL k, Few r := by
  intro r hr
  simp only [weakL, List.mem_cons, List.not_mem_nil, or_false] at hr
  rcases hr with rfl | rfl
  · refine few_opt _ _ _ (fun x hx c e => ?_) (by simp)
    simp only [List.mem_cons, List.not_mem_nil, or_false] at hx
    rcases hx with rfl | rfl | rfl
    · injection e with e; subst e; simp
    all_goals
      unfold rTime at e
      split at e
      · injection e with e; subst e; simp [putTm_length]
      · cases e
  · refine few_opt _ _ _ (fun x hx c e => ?_) (by simp)
    simp only [List.mem_cons, List.not_mem_nil, or_false] at hx
    subst hx
    rw [rTold_eq] at e
    split at e
    · injection e with e; subst e; rw [putAt_length]; omega
    · cases e
theorem all_weak (k : Wk) (g cap : Nat) (w' : World) (h : PartsB w' g (weakL k)) : Calls Tryz.prog 32 #[.slice (some ⟨g, 0, none⟩) 2 cap] w' (GivesPost (catP (weakL k)) w') :=
  all_any (weakL k) g 2 cap rfl (by omega) (few_weakL k) w' h
end Go.Proofs.YtgmhapjidbdhnaaGreat

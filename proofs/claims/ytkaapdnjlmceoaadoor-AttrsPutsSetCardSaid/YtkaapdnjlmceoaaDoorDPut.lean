/- attrs.Put: the door. -/
import Derived.Test.YtkaapdnjlmceoaaDoorToldB
import Derived.Test.YtkaapdnjlmceoaaDoorRDoor
set_option linter.unusedVariables false
set_option linter.unusedSimpArgs false
namespace Go.Proofs.YtkaapdnjlmceoaaDoor
open Go.RowKit
/-- What a Put comes to. -/
def PutPost (r : Except Int (List UInt8)) (w : World) (e : Ending) (w' : World) : Prop :=
  Below w.heap.size w w' ∧ ((∃ bs v, r = .ok bs ∧ e = .returned (.tuple #[v, .int .i64 0]) ∧ OwnB w' w.heap.size v bs) ∨ (∃ er, r = .error er ∧ e = .returned (.tuple #[.slice none 0 0, .int .i64 er])))
theorem OwnB.set {w : World} {base : Nat} {v : Value} {bs : List UInt8} (h : OwnB w base v bs) {p : Addr} (hp : p.block < base) (u : Value) : OwnB (w.setCell p u) base v bs := by
  unfold OwnB at h ⊢
  rcases h.2 with hn | ⟨g, cap, cur, hv, hb, hh, hr⟩
  · exact ⟨h.1, .inl hn⟩
  · exact ⟨h.1, .inr ⟨g, cap, cur, hv, hb, (Below.heap_setCell _ _ _ _ (by omega)).trans hh, hr⟩⟩
set_option maxRecDepth 100000 in
set_option maxHeartbeats 4000000 in
theorem Put_door {a : At} {w : World} (ha : a.wf) : Calls Tryd.prog 5 #[eAttrs a] w (PutPost (rTold a) w) := by
  have hT := fun w => told_mk (w := w) ha
  have HT := Lib.hid hT
  clear hT ha
  simp only [eAttrs, At.cells] at HT ⊢
  go_enter_defers Tryd.func5, Tryd.ntmps5
  go_wp2_with fail
  refine (HT.out _).mono ?_
  rintro e w1 hm
  obtain ⟨f1, cp1, rfl, G1, b1⟩ := hm.get
  obtain ⟨f, cp, he, eg, hG⟩ := G1
  injection he with he1 he2 he3
  injection he1 with he1
  subst he1; subst he3
  have eg2 : ∀ (args : Array Value) (wx : World), (callFunc f1 args).run Tryd.prog wx = .ok (.enter f1 args) wx := eg
  have hB1 : Below w.heap.size w w1 := bl_then (by (with_reducible (repeat' (first | exact Below.refl _ _ | assumption | apply bl_alloc | apply bl_drewN | apply bl_drew | refine bl_set ?_ ?_ _))) <;> (first | done | (simp; done) | (simp; omega) | omega)) b1
  obtain ⟨hcx, hfx⟩ := bcell b1
  have he0 : w1.cell? ⟨w.heap.size + 1, 0, none⟩ = _ := hcx _ 0 (by simp)
  have hf0 : w1.frozen? ⟨w.heap.size + 1, 0, none⟩ = _ := hfx _ 0 (by simp)
  have hz1 := b1.size
  simp at hz1
  (try simp [go_sem] at he0); (try simp [go_sem] at hf0)
  clear hm he2 hcx hfx b1
  go_wp2_with fail
  refine (hG w1 (Below.refl _ _)).mono ?_
  rintro e w2 ⟨b2, hcase⟩
  have hB2 : Below w.heap.size w w2 := bl_then hB1 b2
  obtain ⟨hcx, hfx⟩ := bcell b2
  have he2 : w2.cell? ⟨w.heap.size + 1, 0, none⟩ = _ := (hcx _ 0 (by omega)).trans he0
  have hf2 : w2.frozen? ⟨w.heap.size + 1, 0, none⟩ = _ := (hfx _ 0 (by omega)).trans hf0
  have hz2 := b2.size
  have hz3 : w.heap.size + 1 < w2.heap.size := by omega
  clear hcx hfx he0 hf0 hG eg eg2 b2 hB1
  rcases hcase with ⟨bs, v, hr, rfl, o⟩ | ⟨er, hr, rfl⟩
  · go_wp2_with fail
    refine leaves_cons (f := 10) (args := #[.pointer (some ⟨w.heap.size + 1, 0, none⟩)]) (by simp) (by simp [go_sem]) ?_
    refine (stop_idle _ _).mono ?_
    rintro e u' w3 ⟨rfl, rfl, rfl⟩
    simp (maxDischargeDepth := 8) [Leaves, settle, results, Tryd.results5, go_sem, *]
    exact ⟨by (with_reducible (repeat' (first | exact Below.refl _ _ | assumption | apply bl_alloc | apply bl_drewN | apply bl_drew | refine bl_set ?_ ?_ _))) <;> (first | done | (simp; done) | (simp; omega) | omega), .inl ⟨bs, v, rfl, rfl, ((o.set (by simp; omega) _).alloc _).mono (by omega)⟩⟩
  · go_wp2_with fail
    refine leaves_cons (f := 10) (args := #[.pointer (some ⟨w.heap.size + 1, 0, none⟩)]) (by simp) (by simp [go_sem]) ?_
    refine (stop_panicking _ 0 er _ (by simp [go_sem, *]) (by simp [go_sem, *]) (by simp; try omega)).mono ?_
    rintro e u' w3 ⟨rfl, rfl, rfl⟩
    simp (maxDischargeDepth := 8) [Leaves, settle, results, Tryd.results5, go_sem, wrDone, *]
    exact ⟨by (with_reducible (repeat' (first | exact Below.refl _ _ | assumption | apply bl_alloc | apply bl_drewN | apply bl_drew | refine bl_set ?_ ?_ _))) <;> (first | done | (simp; done) | (simp; omega) | omega), .inr ⟨er, rfl, rfl⟩⟩
theorem Put_any2 {a : At} {w : World} (ha : a.wf) : Calls Tryd.prog 5 #[eAttrs a] w (PutPost (if a.may then .ok (putAt a) else .error 1) w) := by
  rw [← rTold_eq]; exact Put_door ha
end Go.Proofs.YtkaapdnjlmceoaaDoor

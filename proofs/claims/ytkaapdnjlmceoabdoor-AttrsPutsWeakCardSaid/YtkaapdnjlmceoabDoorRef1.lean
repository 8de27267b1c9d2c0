/- The document's answer, layers 1 and 9: numbers, read and put; points of time. -/
import Derived.Test.YtkaapdnjlmceoabDoorAppend
import Derived.Deep.RegionHeld3
set_option linter.unusedVariables false
set_option linter.unusedSimpArgs false
namespace Go.Proofs.YtkaapdnjlmceoabDoor
open Go.RowKit
section
variable (A : Option Addr) (n cap : Nat) (xs : List UInt8) (w : World)
end
set_option maxRecDepth 100000 in
set_option maxHeartbeats 1000000 in
theorem RPut_any (n : Nat) (hn : n < 4294967296) (w : World) :
    Calls Tryd.prog 34 #[.int .u32 n] w fun e w' => ∃ v, e = .returned v ∧ OwnB w' w.heap.size v (put4 n) ∧ Below w.heap.size w w' := by
  go_enter Tryd.func34, Tryd.ntmps34
  go_wp2
  refine bodyPost_ret (v := .slice (some ⟨w.heap.size, 0, none⟩) 4 4) (by simp [results, Tryd.results34, go_sem]) rfl ⟨_, rfl, ?_, by (with_reducible (repeat' (first | exact Below.refl _ _ | assumption | apply bl_alloc | apply bl_drewN | apply bl_drew | refine bl_set ?_ ?_ _))) <;> (first | done | (simp; done) | (simp; omega) | omega)⟩
  refine ⟨by simp [u8s], .inr ⟨w.heap.size, 4, _, rfl, Nat.le_refl _, heap_alloc_new _ _, by simp, by decide, rfl, ?_⟩⟩
  have t : ∀ m : Nat, Value.int .u8 ((UInt8.ofNat m).toNat : Int) = .int .u8 ((m % 256 : Nat) : Int) := fun m => by simp
  show [Value.int .u8 ((n : Int) / 16777216), .int .u8 ((n : Int) / 65536 % 256), .int .u8 ((n : Int) / 256 % 256), .int .u8 ((n : Int) % 256)] = [Value.int .u8 ((UInt8.ofNat (n / 16777216)).toNat : Int), .int .u8 ((UInt8.ofNat (n / 65536)).toNat : Int), .int .u8 ((UInt8.ofNat (n / 256)).toNat : Int), .int .u8 ((UInt8.ofNat n).toNat : Int)]
  rw [t, t, t, t, show ((n : Int) / 16777216) = ((n / 16777216 % 256 : Nat) : Int) by omega, show ((n : Int) / 65536 % 256) = ((n / 65536 % 256 : Nat) : Int) by omega, show ((n : Int) / 256 % 256) = ((n / 256 % 256 : Nat) : Int) by omega, show ((n : Int) % 256) = ((n % 256 : Nat) : Int) by omega]
set_option maxRecDepth 100000 in
set_option maxHeartbeats 1000000 in
theorem RPutLong_any (n : Nat) (hn : n < 18446744073709551616) (w : World) :
    Calls Tryd.prog 15 #[.int .u64 n] w fun e w' => ∃ v, e = .returned v ∧ OwnB w' w.heap.size v (put8 n) ∧ Below w.heap.size w w' := by
  go_enter Tryd.func15, Tryd.ntmps15
  go_wp2_with fail
  rw [show (n : Int) / 4294967296 = ((n / 4294967296 : Nat) : Int) by omega]
  refine (RPut_any _ (by omega) _).mono ?_
  rintro e w1 ⟨v1, rfl, o1, b1⟩
  go_wp2_with fail
  rw [show (n : Int) % 4294967296 = ((n % 4294967296 : Nat) : Int) by omega]
  refine (RPut_any _ (by omega) _).mono ?_
  rintro e w2 ⟨v2, rfl, o2, b2⟩
  have o1 := o1.below b2
  have b3 := bl_then b1 b2
  go_wp2_with (at_builtin; go_loud (refine wp_append_bytes rfl _ _ rfl rfl rfl o1 o2 (by simp) (by simp) (by have := b3.size; omega) ?_; intro v' w3 o3 b4))
  go_ret
  rw [put4_mod] at o3
  exact ⟨_, rfl, o3, b3.trans b4⟩
/-- The document's Check, and a point of time as bytes. -/
theorem RCheck_any (s n : Int) (w : World) : Calls Tryd.prog 14 #[.agg #[.int .u32 s, .int .u32 n]] w fun e w' => e = .returned (.bool (decide (n < 1000000000))) ∧ Below w.heap.size w w' := by
  go_enter Tryd.func14, Tryd.ntmps14
  go_wp2
  go_ret
  exact ⟨rfl, by (with_reducible (repeat' (first | exact Below.refl _ _ | assumption | apply bl_alloc | apply bl_drewN | apply bl_drew | refine bl_set ?_ ?_ _))) <;> (first | done | (simp; done) | (simp; omega) | omega)⟩
def putTm (t : Tm) : List UInt8 := put4 t.sec ++ put4 t.nano
set_option maxRecDepth 100000 in
set_option maxHeartbeats 1000000 in
theorem RTPut_any (t : Tm) (h1 : t.sec < 4294967296) (h2 : t.nano < 4294967296) (w : World) :
    Calls Tryd.prog 16 #[eTime t] w fun e w' => ∃ v, e = .returned v ∧ OwnB w' w.heap.size v (putTm t) ∧ Below w.heap.size w w' := by
  unfold eTime
  go_enter Tryd.func16, Tryd.ntmps16
  go_wp2_with fail
  go_region_held3 (fun wx => wx.cell? ⟨w.heap.size, 0, none⟩ = some (.int .u32 t.sec) ∧ wx.cell? ⟨w.heap.size, 1, none⟩ = some (.int .u32 t.nano)) (go_keep) (first
    | (go_at_call_of 34 (Value.int .u32 (t.sec : Int)); refine Calls.mono (RPut_any _ h1 _) ?_; rintro e w1 ⟨v1, rfl, o1, b1⟩; (obtain ⟨hcx, hfx⟩ := bcell b1); (have hB1 : Below w.heap.size w w1 := bl_then (by (with_reducible (repeat' (first | exact Below.refl _ _ | assumption | apply bl_alloc | apply bl_drewN | apply bl_drew | refine bl_set ?_ ?_ _))) <;> (first | done | (simp; done) | (simp; omega) | omega)) b1); (have hz1 := b1.size); simp at hz1; (have hz1' : w.heap.size < w1.heap.size := (by omega)))
    | (go_at_call_of 34 (Value.int .u32 (t.nano : Int)); refine Calls.mono (RPut_any _ h2 _) ?_; rintro e w2 ⟨v2, rfl, o2, b2⟩; (obtain ⟨hcy, hfy⟩ := bcell b2); (have o1 := o1.below b2); (have hB2 := bl_then hB1 b2); (have hz2 := b2.size); (have hz2' : w.heap.size < w2.heap.size := (by omega)))
    | (refine step_append_bytes rfl _ _ rfl rfl rfl o1 o2 (by simp) (by simp) (by simp; omega) ?_; intro v' w3 o3 b3; (have hcz : ∀ o, w3.cell? ⟨w.heap.size, o, none⟩ = w2.cell? ⟨w.heap.size, o, none⟩ := fun o => b3.cell (p := ⟨_, o, none⟩) (by simp))))
  go_wp2
  go_ret
  exact ⟨_, rfl, o3.mono (by simp), hB2.trans (b3.mono (by simp))⟩
end Go.Proofs.YtkaapdnjlmceoabDoor

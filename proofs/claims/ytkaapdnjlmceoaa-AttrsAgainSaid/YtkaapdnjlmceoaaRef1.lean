/- The document's answer, layers 1 and 9: numbers, read and put; points of time. -/
import Derived.Test.YtkaapdnjlmceoaaAppend
import Derived.Deep.RegionHeld3
set_option linter.unusedVariables false
set_option linter.unusedSimpArgs false
namespace Go.Proofs.Ytkaapdnjlmceoaa
open Go.RowKit
section
variable (A : Option Addr) (n cap : Nat) (xs : List UInt8) (w : World)
set_option maxRecDepth 100000 in
set_option maxHeartbeats 1000000 in
theorem RGet_short (hs : n < 4) :
    Calls Try.prog 57 #[.slice A n cap] w fun e w' => e = .returned (.tuple #[.int .u32 0, .int .i64 4]) ∧ w = w' := by
  go_enter Try.func57, Try.ntmps57
  go_wp2
  go_ret2
  exact ⟨rfl, rfl⟩
set_option maxRecDepth 100000 in
set_option maxHeartbeats 1000000 in
theorem RGet_full (h : Bs w A n xs) (hcap : n ≤ cap) (hs : 4 ≤ n) :
    Calls Try.prog 57 #[.slice A n cap] w fun e w' => e = .returned (.tuple #[.int .u32 (beN (xs.take 4)), .int .i64 0]) ∧ w = w' := by
  obtain ⟨hx, hn, h⟩ := h
  obtain ⟨b, off, rfl, hl, h⟩ := h (by omega)
  have H := Lib.hid h; clear h
  have HX := Lib.hid hx; clear hx
  go_enter Try.func57, Try.ntmps57
  go_wp2
  go_loop [4, 5] (fun m i => ∃ k : Nat, k ≤ 4 ∧ i = .int .i64 k ∧ m = .int .u32 (beN (xs.take k))) (fun _ i => 4 - (intOf i).toNat)
  case atStart => exact ⟨0, by omega, rfl, rfl⟩
  case round =>
    obtain ⟨k, hk, rfl, rfl⟩ := hrel
    by_cases hlt : k < 4
    · have hc := H.out k (by omega)
      have hb := (xs.getD k 0).toNat_lt
      have hs := Lib.hid (beN_take_succ xs k (by rw [HX.out]; omega))
      have hbe : beN (xs.take k) * 256 < 4294967296 := by
        have h1 := beN_lt (xs.take k)
        have h2 : 256 ^ (xs.take k).length ≤ 256 ^ 3 := Nat.pow_le_pow_right (by decide) (by rw [List.length_take]; omega)
        omega
      generalize (xs.getD k 0).toNat = c at hc hb hs
      go_wp2
      go_round
      case rel => exact ⟨k + 1, by omega, by go_num, by rw [hs.out]; congr 1; try omega⟩
      case measure => simp [intOf]; omega
    · obtain rfl : k = 4 := by omega
      go_wp2
      go_ret2
      exact ⟨rfl, rfl⟩
set_option maxRecDepth 100000 in
set_option maxHeartbeats 1000000 in
theorem RGetLong_short (hs : n < 8) :
    Calls Try.prog 58 #[.slice A n cap] w fun e w' => e = .returned (.tuple #[.int .u64 0, .int .i64 4]) ∧ w = w' := by
  go_enter Try.func58, Try.ntmps58
  go_wp2
  go_ret2
  exact ⟨rfl, rfl⟩
set_option maxRecDepth 100000 in
set_option maxHeartbeats 1000000 in
theorem RGetLong_full (h : Bs w A n xs) (hcap : n ≤ cap) (hs : 8 ≤ n) :
    Calls Try.prog 58 #[.slice A n cap] w fun e w' => e = .returned (.tuple #[.int .u64 (beN (xs.take 8)), .int .i64 0]) ∧ w = w' := by
  obtain ⟨hx, hn, h⟩ := h
  obtain ⟨b, off, rfl, hl, h⟩ := h (by omega)
  have H := Lib.hid h; clear h
  have HX := Lib.hid hx; clear hx
  go_enter Try.func58, Try.ntmps58
  go_wp2
  go_loop [4, 5] (fun m i => ∃ k : Nat, k ≤ 8 ∧ i = .int .i64 k ∧ m = .int .u64 (beN (xs.take k))) (fun _ i => 8 - (intOf i).toNat)
  case atStart => exact ⟨0, by omega, rfl, rfl⟩
  case round =>
    obtain ⟨k, hk, rfl, rfl⟩ := hrel
    by_cases hlt : k < 8
    · have hc := H.out k (by omega)
      have hb := (xs.getD k 0).toNat_lt
      have hs := Lib.hid (beN_take_succ xs k (by rw [HX.out]; omega))
      have hbe : beN (xs.take k) * 256 < 18446744073709551616 := by
        have h1 := beN_lt (xs.take k)
        have h2 : 256 ^ (xs.take k).length ≤ 256 ^ 7 := Nat.pow_le_pow_right (by decide) (by rw [List.length_take]; omega)
        omega
      generalize (xs.getD k 0).toNat = c at hc hb hs
      go_wp2
      go_round
      case rel => exact ⟨k + 1, by omega, by go_num, by rw [hs.out]; congr 1; try omega⟩
      case measure => simp [intOf]; omega
    · obtain rfl : k = 8 := by omega
      go_wp2
      go_ret2
      exact ⟨rfl, rfl⟩
end
set_option maxRecDepth 100000 in
set_option maxHeartbeats 1000000 in
theorem RPut_any (n : Nat) (hn : n < 4294967296) (w : World) :
    Calls Try.prog 60 #[.int .u32 n] w fun e w' => ∃ v, e = .returned v ∧ OwnB w' w.heap.size v (put4 n) ∧ Below w.heap.size w w' := by
  go_enter Try.func60, Try.ntmps60
  go_wp2
  refine bodyPost_ret (v := .slice (some ⟨w.heap.size, 0, none⟩) 4 4) (by simp [results, Try.results60, go_sem]) rfl ⟨_, rfl, ?_, by (with_reducible (repeat' (first | exact Below.refl _ _ | assumption | apply bl_alloc | apply bl_drewN | apply bl_drew | refine bl_set ?_ ?_ _))) <;> (first | done | (simp; done) | (simp; omega) | omega)⟩
  refine ⟨by simp [u8s], .inr ⟨w.heap.size, 4, _, rfl, Nat.le_refl _, heap_alloc_new _ _, by simp, by decide, rfl, ?_⟩⟩
  have t : ∀ m : Nat, Value.int .u8 ((UInt8.ofNat m).toNat : Int) = .int .u8 ((m % 256 : Nat) : Int) := fun m => by simp
  show [Value.int .u8 ((n : Int) / 16777216), .int .u8 ((n : Int) / 65536 % 256), .int .u8 ((n : Int) / 256 % 256), .int .u8 ((n : Int) % 256)] = [Value.int .u8 ((UInt8.ofNat (n / 16777216)).toNat : Int), .int .u8 ((UInt8.ofNat (n / 65536)).toNat : Int), .int .u8 ((UInt8.ofNat (n / 256)).toNat : Int), .int .u8 ((UInt8.ofNat n).toNat : Int)]
  rw [t, t, t, t, show ((n : Int) / 16777216) = ((n / 16777216 % 256 : Nat) : Int) by omega, show ((n : Int) / 65536 % 256) = ((n / 65536 % 256 : Nat) : Int) by omega, show ((n : Int) / 256 % 256) = ((n / 256 % 256 : Nat) : Int) by omega, show ((n : Int) % 256) = ((n % 256 : Nat) : Int) by omega]
set_option maxRecDepth 100000 in
set_option maxHeartbeats 1000000 in
theorem RPutLong_any (n : Nat) (hn : n < 18446744073709551616) (w : World) :
    Calls Try.prog 61 #[.int .u64 n] w fun e w' => ∃ v, e = .returned v ∧ OwnB w' w.heap.size v (put8 n) ∧ Below w.heap.size w w' := by
  go_enter Try.func61, Try.ntmps61
  go_wp2_with fail
  rw [show (n : Int) / 4294967296 = ((n / 4294967296 : Nat) : Int) by omega]
  refine (RPut_any _ (by omega) _).mono ?_
  rintro e w1 ⟨v1, rfl, o1, b1⟩
  go_wp2_with fail
  rw [show (n : Int) % 4294967296 = ((n % 4294967296 : Nat) : Int) by omega]
  refine (RPut_any _ (by omega) _).mono ?_
  rintro e w2 ⟨v2, rfl, o2, b2⟩
  have o1 := o1.below b2
  have b3 := bl_then b1 b2
  go_wp2_with (at_builtin; go_loud (refine wp_append_bytes rfl _ _ rfl rfl rfl o1 o2 (by simp) (by simp) (by have := b3.size; omega) ?_; intro v' w3 o3 b4))
  go_ret
  rw [put4_mod] at o3
  exact ⟨_, rfl, o3, b3.trans b4⟩
/-- The document's Check, and a point of time as bytes. -/
theorem RCheck_any (s n : Int) (w : World) : Calls Try.prog 59 #[.agg #[.int .u32 s, .int .u32 n]] w fun e w' => e = .returned (.bool (decide (n < 1000000000))) ∧ Below w.heap.size w w' := by
  go_enter Try.func59, Try.ntmps59
  go_wp2
  go_ret
  exact ⟨rfl, by (with_reducible (repeat' (first | exact Below.refl _ _ | assumption | apply bl_alloc | apply bl_drewN | apply bl_drew | refine bl_set ?_ ?_ _))) <;> (first | done | (simp; done) | (simp; omega) | omega)⟩
def putTm (t : Tm) : List UInt8 := put4 t.sec ++ put4 t.nano
set_option maxRecDepth 100000 in
set_option maxHeartbeats 1000000 in
theorem RTPut_any (t : Tm) (h1 : t.sec < 4294967296) (h2 : t.nano < 4294967296) (w : World) :
    Calls Try.prog 62 #[eTime t] w fun e w' => ∃ v, e = .returned v ∧ OwnB w' w.heap.size v (putTm t) ∧ Below w.heap.size w w' := by
  unfold eTime
  go_enter Try.func62, Try.ntmps62
  go_wp2_with fail
  go_region_held3 (fun wx => wx.cell? ⟨w.heap.size, 0, none⟩ = some (.int .u32 t.sec) ∧ wx.cell? ⟨w.heap.size, 1, none⟩ = some (.int .u32 t.nano)) (go_keep) (first
    | (go_at_call_of 60 (Value.int .u32 (t.sec : Int)); refine Calls.mono (RPut_any _ h1 _) ?_; rintro e w1 ⟨v1, rfl, o1, b1⟩; (obtain ⟨hcx, hfx⟩ := bcell b1); (have hB1 : Below w.heap.size w w1 := bl_then (by (with_reducible (repeat' (first | exact Below.refl _ _ | assumption | apply bl_alloc | apply bl_drewN | apply bl_drew | refine bl_set ?_ ?_ _))) <;> (first | done | (simp; done) | (simp; omega) | omega)) b1); (have hz1 := b1.size); simp at hz1; (have hz1' : w.heap.size < w1.heap.size := (by omega)))
    | (go_at_call_of 60 (Value.int .u32 (t.nano : Int)); refine Calls.mono (RPut_any _ h2 _) ?_; rintro e w2 ⟨v2, rfl, o2, b2⟩; (obtain ⟨hcy, hfy⟩ := bcell b2); (have o1 := o1.below b2); (have hB2 := bl_then hB1 b2); (have hz2 := b2.size); (have hz2' : w.heap.size < w2.heap.size := (by omega)))
    | (refine step_append_bytes rfl _ _ rfl rfl rfl o1 o2 (by simp) (by simp) (by simp; omega) ?_; intro v' w3 o3 b3; (have hcz : ∀ o, w3.cell? ⟨w.heap.size, o, none⟩ = w2.cell? ⟨w.heap.size, o, none⟩ := fun o => b3.cell (p := ⟨_, o, none⟩) (by simp))))
  go_wp2
  go_ret
  exact ⟨_, rfl, o3.mono (by simp), hB2.trans (b3.mono (by simp))⟩
end Go.Proofs.Ytkaapdnjlmceoaa

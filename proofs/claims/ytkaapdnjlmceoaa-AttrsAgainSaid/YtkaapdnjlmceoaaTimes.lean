/- times: may a point of time be, and reading one. -/
import Derived.Test.YtkaapdnjlmceoaaWords
set_option linter.unusedVariables false
set_option linter.unusedSimpArgs false
namespace Go.Proofs.Ytkaapdnjlmceoaa
open Go.RowKit

theorem Check_any (s n : Int) (w : World) : Calls Try.prog 24 #[.agg #[.int .u32 s, .int .u32 n]] w fun e w' => e = .returned (.bool (decide (n < 1000000000))) ∧ w.alloc (.cells #[.int .u32 s, .int .u32 n] 29) = w' := by
  go_enter Try.func24, Try.ntmps24
  go_wp2
  go_ret
  exact ⟨rfl, rfl⟩
theorem Check_yes (s n : Int) (hn : n < 1000000000) (w : World) : Calls Try.prog 24 #[.agg #[.int .u32 s, .int .u32 n]] w fun e w' => e = .returned (.bool true) ∧ w.alloc (.cells #[.int .u32 s, .int .u32 n] 29) = w' :=
  (Check_any s n w).mono fun e w' h => ⟨by rw [h.1, decide_eq_true (by omega)], h.2⟩
theorem Check_no (s n : Int) (hn : ¬ n < 1000000000) (w : World) : Calls Try.prog 24 #[.agg #[.int .u32 s, .int .u32 n]] w fun e w' => e = .returned (.bool false) ∧ w.alloc (.cells #[.int .u32 s, .int .u32 n] 29) = w' :=
  (Check_any s n w).mono fun e w' h => ⟨by rw [h.1, decide_eq_false (by omega)], h.2⟩

def eTime (t : Tm) : Value := .agg #[.int .u32 t.sec, .int .u32 t.nano]
section
variable (A : Option Addr) (n cap : Nat) (xs : List UInt8) (w : World)
set_option maxHeartbeats 400000 in
theorem TGet_short (h : Bs w A n xs) (hs : n < 8) :
    Calls Try.prog 75 #[.slice A n cap] w fun e w' => e = .returned (.tuple #[.agg #[.int .u32 0, .int .u32 0], .int .i64 4]) ∧ Below w.heap.size w w' := by
  have H := Lib.hid h; clear h
  go_enter Try.func75, Try.ntmps75
  go_wp2_with (go_at_call 66; refine (GetLong_short _ _ _ _ _ (H.out.alloc _) hs).mono ?_; rintro e w' ⟨rfl, rfl⟩)
  exact bodyPost_ret (v := .tuple #[.agg #[.int .u32 0, .int .u32 0], .int .i64 4]) (by simp [results, Try.results75, go_sem]) rfl ⟨rfl, by (with_reducible (repeat' (first | exact Below.refl _ _ | assumption | apply bl_alloc | apply bl_drewN | apply bl_drew | refine bl_set ?_ ?_ _))) <;> (first | done | (simp; done) | (simp; omega) | omega)⟩
set_option maxHeartbeats 400000 in
theorem TGet_bad (h : Bs w A n xs) (hcap : n ≤ cap) (hs : 8 ≤ n) (hb : ¬ beN (xs.take 8) % 4294967296 < 1000000000) :
    Calls Try.prog 75 #[.slice A n cap] w fun e w' => e = .returned (.tuple #[.agg #[.int .u32 0, .int .u32 0], .int .i64 5]) ∧ Below w.heap.size w w' := by
  have H := Lib.hid h; clear h
  have hl := beN_lt (xs.take 8)
  have hl : beN (xs.take 8) < 18446744073709551616 := Nat.lt_of_lt_of_le hl (Nat.le_trans (Nat.pow_le_pow_right (by decide) (List.length_take_le _ _)) (by decide))
  generalize hm : beN (xs.take 8) = m at hb hl
  have HM := Lib.hid hm; clear hm
  go_enter Try.func75, Try.ntmps75
  go_wp2_with (first | (go_at_call 66; refine (GetLong_full _ _ _ _ _ (H.out.alloc _) hcap hs).mono ?_; rw [HM.out]; rintro e w' ⟨rfl, rfl⟩) | (go_at_call 24; refine (Check_no _ _ (by omega) _).mono ?_; rintro e w1 ⟨rfl, rfl⟩))
  exact bodyPost_ret (v := .tuple #[.agg #[.int .u32 0, .int .u32 0], .int .i64 5]) (by simp [results, Try.results75, go_sem]) rfl ⟨rfl, by (with_reducible (repeat' (first | exact Below.refl _ _ | assumption | apply bl_alloc | apply bl_drewN | apply bl_drew | refine bl_set ?_ ?_ _))) <;> (first | done | (simp; done) | (simp; omega) | omega)⟩
set_option maxHeartbeats 400000 in
theorem TGet_full (h : Bs w A n xs) (hcap : n ≤ cap) (hs : 8 ≤ n) (hb : beN (xs.take 8) % 4294967296 < 1000000000) :
    Calls Try.prog 75 #[.slice A n cap] w fun e w' => e = .returned (.tuple #[eTime ⟨beN (xs.take 8) / 4294967296, beN (xs.take 8) % 4294967296⟩, .int .i64 0]) ∧ Below w.heap.size w w' := by
  have H := Lib.hid h; clear h
  have hl := beN_lt (xs.take 8)
  have hl : beN (xs.take 8) < 18446744073709551616 := Nat.lt_of_lt_of_le hl (Nat.le_trans (Nat.pow_le_pow_right (by decide) (List.length_take_le _ _)) (by decide))
  generalize hm : beN (xs.take 8) = m at hb hl
  have HM := Lib.hid hm; clear hm
  go_enter Try.func75, Try.ntmps75
  go_wp2_with (first | (go_at_call 66; refine (GetLong_full _ _ _ _ _ (H.out.alloc _) hcap hs).mono ?_; rw [HM.out]; rintro e w' ⟨rfl, rfl⟩) | (go_at_call 24; refine (Check_yes _ _ (by omega) _).mono ?_; rintro e w1 ⟨rfl, rfl⟩))
  exact bodyPost_ret (v := .tuple #[.agg #[.int .u32 (m / 4294967296 : Nat), .int .u32 (m % 4294967296 : Nat)], .int .i64 0]) (by simp [results, Try.results75, go_sem]) rfl ⟨rfl, by (with_reducible (repeat' (first | exact Below.refl _ _ | assumption | apply bl_alloc | apply bl_drewN | apply bl_drew | refine bl_set ?_ ?_ _))) <;> (first | done | (simp; done) | (simp; omega) | omega)⟩
theorem TGet_any (A : Option Addr) (n cap : Nat) (xs : List UInt8) (hx : xs.length = n) (hcap : n ≤ cap) : ∃ (t : Tm) (er : Int), (∀ w, Bs w A n xs →
    Calls Try.prog 75 #[.slice A n cap] w fun e w' => e = .returned (.tuple #[.agg #[.int .u32 t.sec, .int .u32 t.nano], .int .i64 er]) ∧ Below w.heap.size w w') ∧
    ((er = 0 ∧ pTime xs = .ok (t, 8) ∧ 8 ≤ n) ∨ ((er == 0) = false ∧ pTime xs = .error er)) := by
  by_cases hs : n < 8
  · exact ⟨⟨0, 0⟩, 4, fun w h => TGet_short A n cap xs w h hs, .inr ⟨rfl, by simp [pTime, hx, hs]⟩⟩
  · by_cases hb : beN (xs.take 8) % 4294967296 < 1000000000
    · exact ⟨_, 0, fun w h => TGet_full A n cap xs w h hcap (by omega) hb, .inl ⟨rfl, by simp [pTime, hx, hs, hb], by omega⟩⟩
    · exact ⟨⟨0, 0⟩, 5, fun w h => TGet_bad A n cap xs w h hcap (by omega) hb, .inr ⟨rfl, by simp [pTime, hx, hs, hb]⟩⟩
end
end Go.Proofs.Ytkaapdnjlmceoaa

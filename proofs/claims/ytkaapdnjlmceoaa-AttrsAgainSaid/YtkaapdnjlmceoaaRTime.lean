/- The document's Get of a point of time; the Reader's Time, Attrs, Must. -/
import Derived.Test.YtkaapdnjlmceoaaRRead
set_option linter.unusedVariables false
set_option linter.unusedSimpArgs false
namespace Go.Proofs.Ytkaapdnjlmceoaa
open Go.RowKit
section
variable {A : Option Addr} {n cap : Nat} {xs : List UInt8} {w : World}
theorem pTime_err {b : List UInt8} {er : Int} (h : pTime b = .error er) : er ≠ 0 := by
  simp only [pTime] at h
  split at h
  · injection h with h; omega
  · split at h
    · cases h
    · injection h with h; omega
theorem pTime_len {b : List UInt8} {v : Tm} {j : Nat} (h : pTime b = .ok (v, j)) {k n : Nat} (hl : b.length = n - k ∧ k ≤ n) : j = 8 ∧ k + 8 ≤ n := by
  simp only [pTime] at h
  split at h
  · cases h
  · split at h
    · injection h with h; injection h with h1 h2; exact ⟨h2.symm, by omega⟩
    · cases h
set_option maxRecDepth 100000 in
set_option maxHeartbeats 2000000 in
theorem RTGet (hB : Bs w A n xs) (hc : n ≤ cap) : Calls Try.prog 91 #[.slice A n cap] w fun e w' => e = .returned (.tuple #[eTime (outP pTime ⟨0, 0⟩ xs).1, .int .i64 (outP pTime ⟨0, 0⟩ xs).2]) ∧ Below w.heap.size w w' := by
  have HB := Lib.hid hB
  have hn := hB.2.1
  by_cases hs : n < 8
  · rw [outP_bad (e := 4) (by simp [pTime, hB.1, hs])]
    clear hB
    simp only [eTime]
    go_enter Try.func91, Try.ntmps91
    go_wp2
    exact bodyPost_ret (v := .tuple #[.agg #[.int .u32 0, .int .u32 0], .int .i64 4]) (by simp [results, Try.results91, go_sem]) rfl ⟨rfl, by (with_reducible (repeat' (first | exact Below.refl _ _ | assumption | apply bl_alloc | apply bl_drewN | apply bl_drew | refine bl_set ?_ ?_ _))) <;> (first | done | (simp; done) | (simp; omega) | omega)⟩
  · have h8 : 8 ≤ xs.length := by rw [hB.1]; omega
    have hne : ¬ cap = 4 := by omega
    have hd := f8_split (xs := xs) (i := 0) h8
    have HD := Lib.hid (hB.from_lt 4 (by omega) (show 4 < cap by omega))
    have h1 : Hid (4 ≤ n) := by rw [Hid]; omega
    have h2 : Hid (4 ≤ n - 4) := by rw [Hid]; omega
    have h3 : Hid (n - 4 ≤ cap - 4) := by rw [Hid]; omega
    have e1 : beN (xs.take 4) = f4 xs 0 := rfl
    have e2 : beN ((xs.drop 4).take 4) = f4 xs 4 := rfl
    have HG1 := Lib.hid (fun w h => RGet_full A n cap xs w h hc h1.out)
    have HG2 := Lib.hid (fun w h => RGet_full (Option.map (fun x => x.add 4) A) (n - 4) (cap - 4) (xs.drop 4) w h h3.out h2.out)
    rw [e1] at HG1; rw [e2] at HG2
    clear e1 e2 hB
    have l1 := f4_lt xs 0; have l2 := f4_lt xs 4
    rw [Nat.zero_add] at hd
    by_cases hb : f4 xs 4 < 1000000000
    · rw [outP_ok (v := ⟨f4 xs 0, f4 xs 4⟩) (k := 8) (by
        have : beN (xs.take 8) = f8 xs 0 := rfl
        simp only [pTime, this, if_neg (show ¬ xs.length < 8 by omega)]
        rw [if_pos (by omega)]; congr 3 <;> omega)]
      have hx : (Tm.ok ⟨f4 xs 0, f4 xs 4⟩) = true := by rw [Tm.ok]; exact decide_eq_true hb
      have HX := Lib.hid hx
      clear hd hx l1 l2 hb
      simp only [eTime]
      go_enter Try.func91, Try.ntmps91
      go_wp2_with (first
        | (go_at_call_of 57 (Value.slice A n cap); refine Calls.mono (HG1.out _ (HB.out.below (by (with_reducible (repeat' (first | exact Below.refl _ _ | assumption | apply bl_alloc | apply bl_drewN | apply bl_drew | refine bl_set ?_ ?_ _))) <;> (first | done | (simp; done) | (simp; omega) | omega)))) ?_; rintro e w1 ⟨rfl, rfl⟩)
        | (go_at_call 57; refine Calls.mono (HG2.out _ (HD.out.below (by (with_reducible (repeat' (first | exact Below.refl _ _ | assumption | apply bl_alloc | apply bl_drewN | apply bl_drew | refine bl_set ?_ ?_ _))) <;> (first | done | (simp; done) | (simp; omega) | omega)))) ?_; rintro e w1 ⟨rfl, rfl⟩)
        | (go_at_call 59; refine Calls.mono (RCheck_t ⟨f4 xs 0, f4 xs 4⟩ _) ?_; rw [HX.out]; rintro e w1 ⟨rfl, rfl⟩))
      exact bodyPost_ret (v := .tuple #[.agg #[.int .u32 (f4 xs 0), .int .u32 (f4 xs 4)], .int .i64 0]) (by simp [results, Try.results91, go_sem]) rfl ⟨rfl, by (with_reducible (repeat' (first | exact Below.refl _ _ | assumption | apply bl_alloc | apply bl_drewN | apply bl_drew | refine bl_set ?_ ?_ _))) <;> (first | done | (simp; done) | (simp; omega) | omega)⟩
    · rw [outP_bad (e := 5) (by
        have : beN (xs.take 8) = f8 xs 0 := rfl
        simp only [pTime, this, if_neg (show ¬ xs.length < 8 by omega)]
        rw [if_neg (by omega)])]
      have hx : (Tm.ok ⟨f4 xs 0, f4 xs 4⟩) = false := by rw [Tm.ok]; exact decide_eq_false hb
      have HX := Lib.hid hx
      clear hd hx l1 l2 hb
      simp only [eTime]
      go_enter Try.func91, Try.ntmps91
      go_wp2_with (first
        | (go_at_call_of 57 (Value.slice A n cap); refine Calls.mono (HG1.out _ (HB.out.below (by (with_reducible (repeat' (first | exact Below.refl _ _ | assumption | apply bl_alloc | apply bl_drewN | apply bl_drew | refine bl_set ?_ ?_ _))) <;> (first | done | (simp; done) | (simp; omega) | omega)))) ?_; rintro e w1 ⟨rfl, rfl⟩)
        | (go_at_call 57; refine Calls.mono (HG2.out _ (HD.out.below (by (with_reducible (repeat' (first | exact Below.refl _ _ | assumption | apply bl_alloc | apply bl_drewN | apply bl_drew | refine bl_set ?_ ?_ _))) <;> (first | done | (simp; done) | (simp; omega) | omega)))) ?_; rintro e w1 ⟨rfl, rfl⟩)
        | (go_at_call 59; refine Calls.mono (RCheck_t ⟨f4 xs 0, f4 xs 4⟩ _) ?_; rw [HX.out]; rintro e w1 ⟨rfl, rfl⟩))
      exact bodyPost_ret (v := .tuple #[.agg #[.int .u32 0, .int .u32 0], .int .i64 5]) (by simp [results, Try.results91, go_sem]) rfl ⟨rfl, by (with_reducible (repeat' (first | exact Below.refl _ _ | assumption | apply bl_alloc | apply bl_drewN | apply bl_drew | refine bl_set ?_ ?_ _))) <;> (first | done | (simp; done) | (simp; omega) | omega)⟩
end
section
variable {R : Nat} {A : Option Addr} {n cap k : Nat} {xs : List UInt8} {w : World} {er : Int}
set_option maxRecDepth 100000 in
set_option maxHeartbeats 2000000 in
theorem RRMust (c : Bool) (hR : RRB w R A n cap k er) : Calls Try.prog 69 #[.pointer (some ⟨R, 0, none⟩), .bool c] w fun e w' => e = .returned (.tuple #[]) ∧ w.grownBy w' (some R) ∧ RRB w' R A n cap k (if er = 0 ∧ c = false then 5 else er) := by
  have h2 := hR.e; have hf := hR.free 2
  have HR := Lib.hid hR
  clear hR
  by_cases he : er = 0
  · subst he
    cases c
    · go_enter Try.func69, Try.ntmps69
      go_wp2
      go_end0
      exact ⟨rfl, grown_set _ R 2 _, HR.out.setE 5⟩
    · go_enter Try.func69, Try.ntmps69
      go_wp2
      go_end0
      exact ⟨rfl, World.grownBy.refl _ _, HR.out⟩
  · have he' : (er == 0) = false := beq_eq_false_iff_ne.2 he
    rw [if_neg (fun h => he h.1)]
    clear he
    go_enter Try.func69, Try.ntmps69
    go_wp2
    go_end0
    exact ⟨rfl, World.grownBy.refl _ _, HR.out⟩
end
end Go.Proofs.Ytkaapdnjlmceoaa

/- AttrsGets: the law's walk. -/
import Derived.Test.YtkaapdnjlmceoaaLaw1
import Derived.Test.YtkaapdnjlmceoaaRDoor
set_option linter.unusedVariables false
set_option linter.unusedSimpArgs false
namespace Go.Proofs.Ytkaapdnjlmceoaa
open Go.RowKit
section
variable {A : Option Addr} {n cap : Nat} {xs : List UInt8} {w : World}
theorem Bs.snoc {w : World} {A : Option Addr} {n : Nat} {xs : List UInt8} {x : UInt8} (h : Bs w A (n + 1) (xs ++ [x])) (hx : xs.length = n) : Bs w A n xs := by
  have h' := h.take n (by omega)
  rwa [List.take_append_of_le_length (by omega), List.take_of_length_le (by omega)] at h'
theorem GetPost.det {α : Type} {p : Ps α} {enc : α → Value} {z : α} {n : Nat} {xs : List UInt8} : ∃ v k er, ∀ w e w', GetPost p enc z n xs w e w' → Below w.heap.size w w' ∧ e = .returned (.tuple #[enc v, .int .i64 k, .int .i64 er]) := by
  rcases hp : p xs with er | ⟨v, k⟩
  · refine ⟨z, 0, er, fun w e w' h => ⟨h.1, ?_⟩⟩
    rcases h.2 with ⟨v', k', h1, _⟩ | ⟨er', h1, rfl⟩
    · rw [hp] at h1; cases h1
    · rw [hp] at h1; injection h1 with h1; subst h1; rfl
  · refine ⟨v, k, 0, fun w e w' h => ⟨h.1, ?_⟩⟩
    rcases h.2 with ⟨v', k', h1, _, rfl⟩ | ⟨er', h1, _⟩
    · rw [hp] at h1; injection h1 with h1; injection h1 with h1 h2; subst h1; subst h2; rfl
    · rw [hp] at h1; cases h1
set_option maxRecDepth 100000 in
set_option maxHeartbeats 1000000 in
theorem LGets (hget : ∀ (A : Option Addr) (cap : Nat) (w : World), Bs w A n xs → n ≤ cap → Calls Try.prog 15 #[.slice A n cap] w (GetPost pAttrs eAttrs At.zero n xs w))
    (href : ∀ (A : Option Addr) (cap : Nat) (w : World), Bs w A n xs → n ≤ cap → Calls Try.prog 16 #[.slice A n cap] w (GetPost pAttrs eAttrs At.zero n xs w))
    (hB : Bs w A n xs) (hc : n ≤ cap) :
    Calls Try.prog 3 #[.slice A n cap] w fun e w' => e = .returned (.bool true) ∧ Below w.heap.size w w' := by
  have HB := Lib.hid hB
  have hn := hB.2.1
  obtain ⟨a, k, er, hdet⟩ := GetPost.det (p := pAttrs) (enc := eAttrs) (z := At.zero) (n := n) (xs := xs)
  have HD := Lib.hid hdet
  have H1 := Lib.hid hget; have H2 := Lib.hid href
  clear hB hdet hget href
  by_cases hb : 1048576 < n
  · have hd := Lib.hid (decide_eq_true hb)
    clear hb
    go_enter Try.func3, Try.ntmps3
    go_wp2_with (go_at_call 13; refine Calls.mono (Beyond_one _ n hn (by simp [go_sem])) ?_; rw [hd.out]; rintro e w1 ⟨rfl, rfl⟩)
    go_ret
    exact ⟨rfl, by (with_reducible (repeat' (first | exact Below.refl _ _ | assumption | apply bl_alloc | apply bl_drewN | apply bl_drew | refine bl_set ?_ ?_ _))) <;> (first | done | (simp; done) | (simp; omega) | omega)⟩
  · have hd := Lib.hid (decide_eq_false hb)
    have hle := Lib.hid (show n ≤ 1048576 by omega)
    clear hb
    go_enter Try.func3, Try.ntmps3
    go_wp2_with (first
      | (go_at_call 13; refine Calls.mono (Beyond_one _ n hn (by simp [go_sem])) ?_; rw [hd.out]; rintro e w1 ⟨rfl, rfl⟩)
      | (go_at_call 14; refine Calls.mono (Twin_any (HB.out.below (by (with_reducible (repeat' (first | exact Below.refl _ _ | assumption | apply bl_alloc | apply bl_drewN | apply bl_drew | refine bl_set ?_ ?_ _))) <;> (first | done | (simp; done) | (simp; omega) | omega))) hc hle.out) ?_; rintro e w1 ⟨g, c2, rfl, hc2, hc3, hg, hT, b1⟩; (have hb1 : Below w.heap.size w w1 := bl_then (by (with_reducible (repeat' (first | exact Below.refl _ _ | assumption | apply bl_alloc | apply bl_drewN | apply bl_drew | refine bl_set ?_ ?_ _))) <;> (first | done | (simp; done) | (simp; omega) | omega)) b1); (have HT := Lib.hid hT); (have HTn := Lib.hid (hT.snoc HB.out.1)); clear hT b1; (have hcc : n ≤ c2 := (by omega)))
      | (go_at_call 15; refine Calls.mono (H1.out _ _ _ HTn.out hcc) ?_; rintro e w2 hpost; obtain ⟨b2, rfl⟩ := HD.out _ _ _ hpost; simp only [eAttrs, At.cells]; (have hb2 : Below w.heap.size w w2 := bl_then hb1 b2); (have HT2 := Lib.hid (HT.out.below b2)); clear hpost b2)
      | (go_at_call 16; refine Calls.mono (H2.out _ _ _ (HB.out.below (by (with_reducible (repeat' (first | exact Below.refl _ _ | assumption | apply bl_alloc | apply bl_drewN | apply bl_drew | refine bl_set ?_ ?_ _))) <;> (first | done | (simp; done) | (simp; omega) | omega))) hc) ?_; rintro e w3 hpost; obtain ⟨b3, rfl⟩ := HD.out _ _ _ hpost; simp only [eAttrs, At.cells]; (have hb3 : Below w.heap.size w w3 := bl_then (by (with_reducible (repeat' (first | exact Below.refl _ _ | assumption | apply bl_alloc | apply bl_drewN | apply bl_drew | refine bl_set ?_ ?_ _))) <;> (first | done | (simp; done) | (simp; omega) | omega)) b3); (obtain ⟨hcx, hfx⟩ := bcell b3); (have hzx := b3.size); simp at hzx; (have hzy : w2.heap.size < w3.heap.size := (by omega)); (have HT3 := Lib.hid (HT2.out.below (bl_then' b3 (by (with_reducible (repeat' (first | exact Below.refl _ _ | assumption | apply bl_alloc | apply bl_drewN | apply bl_drew | refine bl_set ?_ ?_ _))) <;> (first | done | (simp; done) | (simp; omega) | omega))))); clear hpost b3)
      | (go_at_call 17; refine Calls.mono (Left_any (HT3.out.below (by (with_reducible (repeat' (first | exact Below.refl _ _ | assumption | apply bl_alloc | apply bl_drewN | apply bl_drew | refine bl_set ?_ ?_ _))) <;> (first | done | (simp; done) | (simp; omega) | omega))) (HB.out.below (by (with_reducible (repeat' (first | exact Below.refl _ _ | assumption | apply bl_alloc | apply bl_drewN | apply bl_drew | refine bl_set ?_ ?_ _))) <;> (first | done | (simp; done) | (simp; omega) | omega))) hc hc2 hc3) ?_; rintro e w4 ⟨rfl, b4⟩; (have hb4 : Below w.heap.size w w4 := bl_then (by (with_reducible (repeat' (first | exact Below.refl _ _ | assumption | apply bl_alloc | apply bl_drewN | apply bl_drew | refine bl_set ?_ ?_ _))) <;> (first | done | (simp; done) | (simp; omega) | omega)) b4); clear b4))
    go_ret
    exact ⟨rfl, by (with_reducible (repeat' (first | exact Below.refl _ _ | assumption | apply bl_alloc | apply bl_drewN | apply bl_drew | refine bl_set ?_ ?_ _))) <;> (first | done | (simp; done) | (simp; omega) | omega)⟩
end
end Go.Proofs.Ytkaapdnjlmceoaa

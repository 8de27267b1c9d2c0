/- attrs: the reader's next Attrs where there are too few bytes; what is, next, if it is; how a time is set. -/
import Derived.Test.YtkaapdnjlmceoaaRAttrs
import Derived.StillTailTactics
set_option linter.unusedVariables false
set_option linter.unusedSimpArgs false
namespace Go
theorem region_tail {P : Program} {id : Nat} {Q : Exit → Act → World → Prop} {a : Act} {w : World} {l : List Oper} (n : Nat) (hm : P.follows .mixedOrders = true) (hB : Region.lexTailB .any l.toArray n = true)
    (h : ∀ w3, w.drew = w3 → wpStill P l.toArray w3 (fun a' => wpList P l.toArray Q (l.drop n) a' w3) (l.take n) a) : (Code.region id l.toArray true).wp P Q a w := wp_region_still_tail n hm hB (h _ rfl)
end Go
namespace Go.Proofs.Ytkaapdnjlmceoaa
open Go.RowKit
section
variable {R : Nat} {A : Option Addr} {n cap k : Nat} {xs : List UInt8} {w : World}
theorem pAttrs_short {b : List UInt8} (h : b.length < 84) : pAttrs b = .error 4 := by rw [pAttrs, if_pos h]

set_option maxRecDepth 100000 in
set_option maxHeartbeats 4000000 in
theorem attrs_short (hR : RB w R A n cap k) (hB : Bs w A n xs) (hk : k ≤ n) (hs : n < k + 84) :
    Calls Try.prog 30 #[.pointer (some ⟨R, 0, none⟩)] w (RdPost pAttrs eAttrs R A n cap k xs w) := by
  have h0 := hR.b; have h1 := hR.at_
  have hn := hB.2.1
  have hRs := hR.lt
  have hne : ¬ w.heap.size = R := by omega
  have hd : decide ((84 : Int) ≤ (n : Int) - (k : Int)) = false := by simp; omega
  have HP := Lib.hid (pAttrs_short (b := xs.drop k) (by rw [List.length_drop, hB.1]; omega))
  have HR := Lib.hid hR
  clear hR hB
  go_enter Try.func30, Try.ntmps30
  go_upto_region 1 with fail
  refine region_tail 11 (by kernel_rfl) (by kernel_rfl) fun w3 hw3 => ?_
  simp only [List.take_succ_cons, List.take_zero, List.drop_succ_cons, List.drop_zero]
  have H0 : w3.cell? ⟨R, 0, none⟩ = some (.slice A n cap) := by rw [← hw3]; exact (HR.out.alloc _).b
  have H1 : w3.cell? ⟨R, 1, none⟩ = some (.int .i64 k) := by rw [← hw3]; exact (HR.out.alloc _).at_
  have hG : w.grownBy w3 (some R) := by rw [← hw3]; (with_reducible (repeat' (first | exact World.grownBy.refl _ _ | assumption | apply gb_alloc | apply gb_drewN | apply gb_drew | apply gb_setR | refine gb_set ?_ ?_ _))) <;> (first | done | (simp; done) | (simp; omega) | omega)
  clear hw3; clear h0 h1
  repeat still_step
  refine wpStill_nil ?_
  have hwr : IntKind.i64.wrap ((n : Int) - (k : Int)) = (n : Int) - (k : Int) := by rw [IntKind.wrap_i64]; omega
  change wpList _ _ _ _ _ w3
  simp only [hwr, hd]
  go_wp2_with (go_at_call 38; refine (must_no _ _).mono ?_; rintro e w' ⟨rfl, rfl⟩)
  exact ⟨rfl, .inr ⟨4, HP.out, rfl, hG⟩⟩
theorem attrs_any (hR : RB w R A n cap k) (hB : Bs w A n xs) (hc : n ≤ cap) (hk : k ≤ n) :
    Calls Try.prog 30 #[.pointer (some ⟨R, 0, none⟩)] w (RdPost pAttrs eAttrs R A n cap k xs w) := by
  by_cases h : k + 84 ≤ n
  · exact attrs_long hR hB hc h
  · exact attrs_short hR hB hk (by omega)


end
end Go.Proofs.Ytkaapdnjlmceoaa

/- A Book of bytes: looking. -/
import Derived.Test.YtkaapdnjlmceoabDoorBookD
import Derived.Deep.QuietTactic
import Derived.BigQuiet
set_option linter.unusedVariables false
set_option linter.unusedSimpArgs false
namespace Go.Proofs.YtkaapdnjlmceoabDoor
open Go.RowKit
theorem isByte_yes (n : Nat) (hn : n ≤ 1000000) (w : World) : Calls Tryd.prog 70 #[.int .u8 (mk8 n).toNat, .int .i64 n] w fun e w' => e = .returned (.bool true) ∧ w = w' :=
  (isByte_any (mk8 n).toNat n hn w).mono fun e w' h => ⟨by rw [h.1, beq_self_eq_true], h.2⟩
theorem isByte_q (n : Nat) (hn : n ≤ 1000000) (w : World) : Calls Tryd.prog 70 #[.int .u8 (mk8 n).toNat, .int .i64 n] w fun e w' => e = .returned (.bool true) ∧ w' = w :=
  (isByte_yes n hn w).mono fun e w' h => ⟨h.1, h.2.symm⟩
theorem marks_getD (h : HB) (k j : Nat) (hj : j < k) : (marks h k).getD j 0 = mk8 h.n := by
  simp [marks, List.getD, hj]
set_option maxRecDepth 100000 in
set_option maxHeartbeats 4000000 in
theorem lookByte_any {m B K G cap : Nat} {w : World} {N : Value} {rest : List Value} {hs : List HB} (hcap : hs.length ≤ cap) (hlen : hs.length ≤ 1000000)
    (h : GrSt m B w K G (N :: .slice (some ⟨G, 0, none⟩) hs.length cap :: rest) hs hs.length hs.length) :
    Calls Tryd.prog 51 #[.pointer (some ⟨K, 0, none⟩)] w fun e w' => e = .returned (.bool true) ∧ Below w.heap.size w w' := by
  have H := Lib.hid h
  clear h
  go_enter Tryd.func51, Tryd.ntmps51
  go_wp2_with fail
  go_loopw [3, 4, 5] (fun s3 s4 s5 wr => ∃ i : Nat, i ≤ hs.length ∧ s3 = .int .i64 i ∧ Below w.heap.size w wr) (fun s3 _ _ wr => hs.length - (intOf s3).toNat)
  case atStart => exact ⟨0, by omega, rfl, Below.refl _ _⟩
  case round =>
    rename World => wo
    obtain ⟨i, hi, rfl, hb⟩ := hrel
    have HS := Lib.hid (H.out.below hb)
    have hk1 : wo.cell? ⟨K, 1, none⟩ = some (.slice (some ⟨G, 0, none⟩) hs.length cap) := HS.out.hK.2.1 1
    by_cases hlt : i < hs.length
    · obtain ⟨r1, r2, r3⟩ := HS.out.hG.2.2 i hlt
      obtain ⟨hxn, hxc, hxl⟩ := HS.out.hn i hlt
      obtain ⟨hD1, hD2, hD3, hD4⟩ := HS.out.hD i hlt hlt
      obtain ⟨x, hx⟩ : ∃ x : HB, hs[i] = x := ⟨_, rfl⟩
      rw [hx] at r1 r2 r3 hxn hxc hxl hD1 hD2 hD3 hD4
      clear hx
      obtain ⟨a, l, c, L, l2, c2, nn⟩ := x
      unfold HB.v at r1
      unfold HB.v2 at r2
      dsimp only at r1 r2 r3 hxn hxc hxl hD1 hD2 hD3 hD4
      subst hD3
      have HD1 := Lib.hid hD1; have HD2 := Lib.hid hD2
      clear hD1 hD2
      go_wp2_with fail
      go_loopw [5] (fun s5 wx => ∃ k : Nat, k ≤ l + 40 ∧ s5 = .int .i64 k ∧ Hid (OwnL wx wo.heap.size [Value.slice a l c, .slice L (l + 40) c2, .int .i64 nn]) ∧ Below wo.heap.size wo wx) (fun s5 wx => l + 40 - (intOf s5).toNat)
      case atStart => exact ⟨0, by omega, rfl, Lib.hid (OwnL.made' _ _ _), (Below.refl _ _).alloc (Nat.le_refl _) _⟩
      case round =>
        obtain ⟨k, hk, rfl, hO2, hb2⟩ := hrel
        have c0 : wr.cell? ⟨wo.heap.size, 0, none⟩ = some (.slice a l c) := hO2.out.2.1 0
        have c1 : wr.cell? ⟨wo.heap.size, 1, none⟩ = some (.slice L (l + 40) c2) := hO2.out.2.1 1
        have c2' : wr.cell? ⟨wo.heap.size, 2, none⟩ = some (.int .i64 nn) := hO2.out.2.1 2
        by_cases hlk : k < l + 40
        · obtain ⟨b1, o1, rfl, hl1, hc1⟩ := (HD2.out.below hb2).2.2 (by omega)
          have hx1 := hc1 k hlk
          rw [marks_getD _ _ _ hlk] at hx1
          dsimp only at hx1
          clear hc1 hl1
          by_cases hkl : k < l
          · obtain ⟨b3, o3, rfl, hl3, hc3⟩ := (HD1.out.below hb2).2.2 (by omega)
            have hx3 := hc3 k hkl
            rw [marks_getD _ _ _ hkl] at hx3
            dsimp only at hx3
            clear hc3 hl3
            go_wp2_with fail
            go_quiet ((go_at_call 70; exact Calls.quiet_of_same (isByte_q nn hxn _)))
            go_wp2_with fail
            go_roundw
            case rel => exact ⟨k + 1, by omega, by go_num, Lib.hid (hO2.out.trk' (by (with_reducible (repeat' (first | exact Below.refl _ _ | assumption | apply bl_alloc | apply bl_drewN | apply bl_drew | refine bl_set ?_ ?_ _))) <;> (first | done | (simp; done) | (simp; omega) | omega))), by (with_reducible (repeat' (first | exact Below.refl _ _ | assumption | apply bl_alloc | apply bl_drewN | apply bl_drew | refine bl_set ?_ ?_ _))) <;> (first | done | (simp; done) | (simp; omega) | omega)⟩
            case measure => simp [intOf]; omega
          · go_wp2_with fail
            go_quiet ((go_at_call 70; exact Calls.quiet_of_same (isByte_q nn hxn _)))
            go_wp2_with fail
            go_roundw
            case rel => exact ⟨k + 1, by omega, by go_num, Lib.hid (hO2.out.trk' (by (with_reducible (repeat' (first | exact Below.refl _ _ | assumption | apply bl_alloc | apply bl_drewN | apply bl_drew | refine bl_set ?_ ?_ _))) <;> (first | done | (simp; done) | (simp; omega) | omega))), by (with_reducible (repeat' (first | exact Below.refl _ _ | assumption | apply bl_alloc | apply bl_drewN | apply bl_drew | refine bl_set ?_ ?_ _))) <;> (first | done | (simp; done) | (simp; omega) | omega)⟩
            case measure => simp [intOf]; omega
        · obtain rfl : k = l + 40 := by omega
          go_wp2_with fail
          go_roundw
          case rel => exact ⟨i + 1, by omega, by go_num, bl_then hb hb2⟩
          case measure => simp [intOf]; omega
    · obtain rfl : i = hs.length := by omega
      go_wp2_with fail
      go_ret
      exact ⟨rfl, hb⟩
end Go.Proofs.YtkaapdnjlmceoabDoor

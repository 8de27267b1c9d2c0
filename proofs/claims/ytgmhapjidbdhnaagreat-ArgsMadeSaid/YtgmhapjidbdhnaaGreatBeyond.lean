/- wharfingerlaw01.Beyond of two lengths. -/
import Derived.Test.YtgmhapjidbdhnaaGreatJH
set_option linter.unusedVariables false
set_option linter.unusedSimpArgs false
namespace Go.Proofs.YtgmhapjidbdhnaaGreat
open Go.RowKit
section
variable {w : World}
set_option maxRecDepth 100000 in
set_option maxHeartbeats 1000000 in
theorem Beyond_two (g m k : Nat) (hm : m ≤ 9223372036854775807) (hk : k ≤ 4611686018427387904) (h0 : w.cell? ⟨g, 0, none⟩ = some (.int .i64 m)) (h1 : w.cell? ⟨g, 1, none⟩ = some (.int .i64 k)) :
    Calls Tryz.prog 16 #[.slice (some ⟨g, 0, none⟩) 2 2] w fun e w' => e = .returned (.bool (decide (1048576 < m + k))) ∧ w = w' := by
  by_cases hb : 1048576 < m
  · have hd : decide ((1048576 : Int) < (m : Int)) = true := by simp; omega
    rw [decide_eq_true (show 1048576 < m + k by omega)]
    clear hk
    go_enter Tryz.func16, Tryz.ntmps16
    go_wp2_with fail
    go_loop [3, 4] (fun v i => v = .int .i64 0 ∧ i = .int .i64 0) (fun _ i => 2 - (intOf i).toNat)
    case atStart => exact ⟨rfl, rfl⟩
    case round =>
      obtain ⟨rfl, rfl⟩ := hrel
      go_wp2
      go_ret
      exact ⟨rfl, rfl⟩
  · have hd : decide ((1048576 : Int) < (m : Int)) = false := by simp; omega
    by_cases hb2 : 1048576 < m + k
    · have hd2 : decide ((1048576 : Int) < (m : Int) + (k : Int)) = true := by simp; omega
      rw [decide_eq_true hb2]
      have hbound : (m : Int) + (k : Int) ≤ 9000000000000000000 := by omega
      clear hm hk
      go_enter Tryz.func16, Tryz.ntmps16
      go_wp2_with fail
      go_loop [3, 4] (fun v i => (v = .int .i64 0 ∧ i = .int .i64 0) ∨ (v = .int .i64 m ∧ i = .int .i64 1)) (fun _ i => 2 - (intOf i).toNat)
      case atStart => exact .inl ⟨rfl, rfl⟩
      case round =>
        rcases hrel with ⟨rfl, rfl⟩ | ⟨rfl, rfl⟩
        · go_wp2
          go_round
          case rel => exact .inr ⟨by simp, rfl⟩
          case measure => simp [intOf]
        · go_wp2
          go_ret
          exact ⟨rfl, rfl⟩
    · have hd2 : decide ((1048576 : Int) < (m : Int) + (k : Int)) = false := by simp; omega
      rw [decide_eq_false hb2]
      have hbound : (m : Int) + (k : Int) ≤ 9000000000000000000 := by omega
      clear hm hk
      go_enter Tryz.func16, Tryz.ntmps16
      go_wp2_with fail
      go_loop [3, 4] (fun v i => (v = .int .i64 0 ∧ i = .int .i64 0) ∨ (v = .int .i64 m ∧ i = .int .i64 1) ∨ (v = .int .i64 ((m : Int) + k) ∧ i = .int .i64 2)) (fun _ i => 2 - (intOf i).toNat)
      case atStart => exact .inl ⟨rfl, rfl⟩
      case round =>
        rcases hrel with ⟨rfl, rfl⟩ | ⟨rfl, rfl⟩ | ⟨rfl, rfl⟩
        · go_wp2
          go_round
          case rel => exact .inr (.inl ⟨by simp, rfl⟩)
          case measure => simp [intOf]
        · go_wp2
          go_round
          case rel => exact .inr (.inr ⟨by simp, rfl⟩)
          case measure => simp [intOf]
        · go_wp2
          go_ret
          exact ⟨rfl, rfl⟩
end
end Go.Proofs.YtgmhapjidbdhnaaGreat

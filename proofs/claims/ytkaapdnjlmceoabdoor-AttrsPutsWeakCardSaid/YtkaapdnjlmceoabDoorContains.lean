/- slices.Contains over numbers of four bytes. -/
import Derived.Test.YtkaapdnjlmceoabDoorWords
set_option linter.unusedVariables false
set_option linter.unusedSimpArgs false
namespace Go.Proofs.YtkaapdnjlmceoabDoor
open Go.RowKit
/-- Some place, not below 0 just if the number is there. -/
def SomeIdx (l : List Nat) (v : Nat) (w : World) (e : Ending) (w' : World) : Prop := ∃ i : Int, e = .returned (.int .i64 i) ∧ (0 ≤ i ↔ v ∈ l) ∧ w = w'
set_option maxHeartbeats 1000000 in set_option maxRecDepth 100000 in theorem IndexKind_any (l : List Nat) (v : Nat) (g cap : Nat) (w : World) (hl : l.length < 1000) (h : ∀ j, j < l.length → w.cell? ⟨g, j, none⟩ = some (.int .u32 (l.getD j 0))) :
    Calls Tryd.prog 61 #[.slice (some ⟨g, 0, none⟩) l.length cap, .int .u32 v] w (SomeIdx l v w) := by
  have H := Lib.hid h; clear h
  go_enter Tryd.func61, Tryd.ntmps61
  go_wp2
  go_loop [8] (fun i => ∃ k : Nat, k ≤ l.length ∧ i = .int .i64 k ∧ Hid (∀ j, j < k → l.getD j 0 ≠ v)) (fun i => l.length - (intOf i).toNat)
  case atStart => exact ⟨0, by omega, rfl, fun j hj => by omega⟩
  case round =>
    obtain ⟨k, hk, rfl, hno⟩ := hrel
    by_cases hlt : k < l.length
    · have hc := H.out k hlt
      by_cases hv : v = l.getD k 0
      · have hb : ((v : Int) == ((l.getD k 0 : Nat) : Int)) = true := beq_iff_eq.2 (by omega)
        have hm : Hid (v ∈ l) := by rw [Hid, hv, List.getD_eq_getElem?_getD, List.getElem?_eq_getElem hlt]; exact List.getElem_mem hlt
        clear hv
        generalize l.getD k 0 = c at hc hb
        go_wp2
        go_ret
        exact ⟨k, rfl, ⟨fun _ => hm.out, fun _ => by omega⟩, rfl⟩
      · have hb : ((v : Int) == ((l.getD k 0 : Nat) : Int)) = false := beq_eq_false_iff_ne.2 (by omega)
        have hno' : Hid (∀ j, j < k + 1 → l.getD j 0 ≠ v) := fun j hj => by
          rcases Nat.lt_or_ge j k with h | h
          · exact hno.out j h
          · obtain rfl : j = k := by omega
            exact fun e => hv e.symm
        clear hv
        generalize l.getD k 0 = c at hc hb
        go_wp2
        go_round
        case rel => exact ⟨k + 1, by omega, by go_num, hno'⟩
        case measure => simp [intOf]; omega
    · obtain rfl : k = l.length := by omega
      have hm : Hid (v ∉ l) := fun hm => by
        obtain ⟨j, hj, e⟩ := List.getElem_of_mem hm
        exact hno.out j hj (by rw [List.getD_eq_getElem?_getD, List.getElem?_eq_getElem hj]; exact e)
      go_wp2
      go_ret
      exact ⟨-1, rfl, ⟨fun h => by omega, fun h => absurd h hm.out⟩, rfl⟩
set_option maxHeartbeats 1000000 in set_option maxRecDepth 100000 in theorem ContainsKind_any (l : List Nat) (v : Nat) (g cap : Nat) (w : World) (hl : l.length < 1000) (h : ∀ j, j < l.length → w.cell? ⟨g, j, none⟩ = some (.int .u32 (l.getD j 0))) :
    Calls Tryd.prog 32 #[.slice (some ⟨g, 0, none⟩) l.length cap, .int .u32 v] w fun e w' => e = .returned (.bool (decide (v ∈ l))) ∧ w = w' := by
  have H := Lib.hid h; clear h
  go_enter Tryd.func32, Tryd.ntmps32
  go_wp2_with fail
  refine (IndexKind_any l v g cap w hl H.out).mono ?_
  rintro e w' ⟨i, rfl, hi, rfl⟩
  have hi := Lib.hid hi
  go_wp2
  go_ret
  exact ⟨by have hi := Hid.out ‹_›; simp [hi], rfl⟩
/-- Over the three kinds that a node may have. -/
theorem ContainsKinds (v : Nat) (g : Nat) (w : World) (h0 : w.cell? ⟨g, 0, none⟩ = some (.int .u32 1)) (h1 : w.cell? ⟨g, 1, none⟩ = some (.int .u32 2)) (h2 : w.cell? ⟨g, 2, none⟩ = some (.int .u32 5)) :
    Calls Tryd.prog 32 #[.slice (some ⟨g, 0, none⟩) 3 3, .int .u32 v] w fun e w' => e = .returned (.bool (v == 1 || v == 2 || v == 5)) ∧ w = w' := by
  refine (ContainsKind_any [1, 2, 5] v g 3 w (by decide) (fun j hj => ?_)).mono ?_
  · match j, hj with
    | 0, _ => exact h0
    | 1, _ => exact h1
    | 2, _ => exact h2
  · rintro e w' ⟨rfl, rfl⟩
    refine ⟨?_, rfl⟩
    congr 2
    rw [Bool.eq_iff_iff]
    simp [or_assoc]
end Go.Proofs.YtkaapdnjlmceoabDoor

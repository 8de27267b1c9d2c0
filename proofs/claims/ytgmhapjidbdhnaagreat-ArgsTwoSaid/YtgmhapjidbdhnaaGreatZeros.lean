/- Appending eight zeros to bytes of the call's own: append(y, make([]byte, 8)...). -/
import Derived.Test.YtgmhapjidbdhnaaGreatJG
import Derived.Lib.AppendZeros
set_option linter.unusedVariables false
set_option linter.unusedSimpArgs false
namespace Go.Proofs.YtgmhapjidbdhnaaGreat
open Go.RowKit
def z8 : List Value := [.int .u8 0, .int .u8 0, .int .u8 0, .int .u8 0, .int .u8 0, .int .u8 0, .int .u8 0, .int .u8 0]
theorem z8_zero : Builtin.zeroCells (Value.cells (.int .u8 0)) 8 = z8.toArray := by kernel_rfl
theorem z8_u8s : u8s (List.replicate 8 0) = z8 := by kernel_rfl
set_option maxRecDepth 100000 in
theorem run_zeros_own {w : World} {base g n cap : Nat} {ty : TypeId} {xs : List UInt8} (h1 : OwnB w base (.slice (some ⟨g, 0, none⟩) n cap) xs) (hlen : xs.length ≤ 1000000) (hbase : base ≤ w.heap.size) :
    ∃ v' w', (Builtin.append_ #[24, 3] ty #[.slice (some ⟨g, 0, none⟩) n cap, .int .i64 8]).run Tryz.prog w = .ok v' w' ∧ OwnB w' base v' (xs ++ List.replicate 8 0) ∧ w.grownBy w' (some g) := by
  have hi := info_u8
  obtain ⟨i0, hi, hz⟩ : ∃ i0, Tryz.prog.info? 5 = some i0 ∧ (i0.zero, i0.size, i0.bytes) = (some (.int .u8 0), 1, 1) := by
    cases he : Tryz.prog.info? 5 with
    | none => rw [he] at hi; cases hi
    | some i0 => rw [he] at hi; exact ⟨i0, rfl, by simpa using hi⟩
  simp only [Prod.mk.injEq] at hz
  have h1' := h1
  unfold OwnB at h1
  rcases h1.2 with ⟨h, _⟩ | ⟨g', cap', cur, e, hbg, hg, hnc, hcm, hcs, htake⟩
  · cases h
  injection e with e1 e2 e3
  injection e1 with e1
  injection e1 with e1
  subst e1; subst e3
  have hln : xs.length = n := e2.symm
  have hw : IntKind.i64.wrap 8 = 8 := by decide
  have ht := Tryz.underlying24
  have htn := Tryz.underlying3
  have hlu : (u8s (xs ++ List.replicate 8 0)).length = (n + 8) := by simp [u8s, hln]
  have hsplit : u8s (xs ++ List.replicate 8 0) = u8s xs ++ z8 := by rw [u8s_append, z8_u8s]
  rw [hln] at hnc htake
  rw [Nat.mul_one] at hcs htake
  by_cases hroom : n + 8 ≤ cap
  · have hst := run_storeCells_at Tryz.prog g n 5 z8 0 cur w hg (by show n + 0 + 8 ≤ cur.size; omega) (by decide)
    simp only [Nat.add_zero] at hst
    have hz8 : (Builtin.zeroCells (Value.cells (.int .u8 0)) 8).toList = z8 := by rw [z8_zero]
    refine ⟨.slice (some ⟨g, 0, none⟩) (n + 8) cap, w.setRow g (cur.toList.take n ++ z8 ++ cur.toList.drop (n + z8.length)).toArray, ?_, ?_, ?_⟩
    rotate_left
    · unfold OwnB
      refine ⟨by rw [hlu]; simp [hln], .inr ⟨g, cap, _, ?_, hbg, setRow_heap w g cur (cur.toList.take n ++ z8 ++ cur.toList.drop (n + z8.length)).toArray 5 _ hg, ?_, hcm, ?_, ?_⟩⟩
      · simp [hln]
      · simp [hln]; omega
      · simp only [List.size_toArray, List.length_append, List.length_take, List.length_drop, Array.length_toList, show z8.length = 8 from rfl]
        omega
      · rw [htake, hsplit]
        have e : (xs ++ List.replicate 8 (0 : UInt8)).length * 1 = (u8s xs ++ z8).length := by rw [← hsplit, hlu]; simp [hln]
        rw [e]
        exact List.take_left
    · exact ⟨rfl, rfl, rfl, by simp, fun k _ hk => setRow_other w g k _ (fun e => hk (by rw [e]))⟩
    · simp [Builtin.append_, run_underlying ht, run_underlying htn, sizeOf, typeInfo, zeroValue, hi, hz.1, hz.2.1, hz.2.2, asInt, asIntOf, hw, hroom, Addr.add_lit, hz8, hst]
  · have holds : ∀ j u, (u8s xs)[j]? = some u → w.cell? ((⟨g, 0, none⟩ : Addr).add j) = some u := World.ownsRow.cells h1' (g := g) rfl
    have hge := grownCap_ge w (n + 8) cap 5
    have hle := grownCap_le_maxLen w (n + 8) cap 5 (by unfold maxLen; omega)
    have hfit : Builtin.nextslicecap (n + 8) cap * 1 ≤ 281474976710656 := growslice_fits (by omega) (by omega)
    rw [Nat.mul_one] at hfit
    have h48' : ¬ (281474976710656 < Builtin.nextslicecap (n + 8) cap) := by omega
    have h63' : ¬ (9223372036854775807 < ((n : Int) + max 8 0)) := by omega
    have hfo := run_firstCells_some (P := Tryz.prog) w.drew 1 n ⟨g, 0, none⟩ n cap (u8s xs) (by simp [u8s, hln]) (by simpa using holds)
    refine ⟨.slice (some ⟨w.heap.size, 0, none⟩) (n + 8) (grownCap w (n + 8) cap 5), w.drew.alloc (.cells ((u8s xs).toArray ++ z8.toArray ++ Builtin.zeroCells (Value.cells (.int .u8 0)) (grownCap w (n + 8) cap 5 - (n + 8))) 5), ?_, ?_, ⟨rfl, rfl, rfl, by simp, fun k hk _ => by first | exact heap_alloc_old w.drew _ k hk | exact heap_alloc_old w.drew _ hk⟩⟩
    · simp [Builtin.append_, run_underlying ht, run_underlying htn, sizeOf, typeInfo, zeroValue, hi, hz.1, hz.2.1, hz.2.2, asInt, asIntOf, hw, hroom, h48', h63', Question.forced, hfo, newRow, grownCap, z8_zero]
      rw [← Array.append_assoc, ← List.append_toArray]
    · unfold OwnB
      refine ⟨by rw [hlu]; simp [hln], .inr ⟨w.heap.size, _, _, by simp [hln], hbase, heap_alloc_new w.drew _, ?_, hle, ?_, ?_⟩⟩
      · simp [hln]; omega
      · simp only [Array.size_append, List.size_toArray, size_zeroCells, show (Value.cells (.int .u8 0)).size = 1 from rfl, show z8.length = 8 from rfl]
        simp [u8s, hln]
        omega
      · have e : (xs ++ List.replicate 8 (0 : UInt8)).length * 1 = (u8s xs ++ z8).length := by rw [← hsplit, hlu]; simp [hln]
        rw [e, hsplit]
        simp only [Array.toList_append, List.append_assoc]
        rw [← List.append_assoc]
        exact List.take_left
end Go.Proofs.YtgmhapjidbdhnaaGreat

/- args.all, walked. Printed by gen_arall.py. -/
import Derived.Test.YtgmhapjidbdhnaaGreatArEq
set_option linter.unusedVariables false
set_option linter.unusedSimpArgs false
namespace Go.Proofs.YtgmhapjidbdhnaaGreat
open Go.RowKit
def any19 : List Value := List.replicate 19 .nilIface
theorem allL_one (a : Ar) : ∀ v ∈ allL a, v.oneCell' = true := by
  intro v hv
  simp only [allL, List.mem_cons, List.not_mem_nil, or_false] at hv
  rcases hv with rfl | rfl | rfl | rfl | rfl | rfl | rfl | rfl | rfl | rfl | rfl | rfl | rfl | rfl | rfl | rfl | rfl | rfl | rfl <;> rfl
set_option maxRecDepth 100000 in
set_option maxHeartbeats 4000000 in
theorem All_any {a : Ar} {v1 v2 v3 : Value} {w : World} (hw : ArWf a) (h1 : Rd w v1 a.h) (h2 : Rd w v2 a.h2) (h3 : Rd w v3 a.data) : Calls Tryz.prog 25 #[.agg (arC v1 v2 v3 a).toArray] w fun e w' => e = .returned (.agg (allL a).toArray) ∧ Below w.heap.size w w' := by
  have hlen := arC_len (v1 := v1) (v2 := v2) (v3 := v3) hw.verf
  obtain ⟨l, hl⟩ : ∃ l, arC v1 v2 v3 a = l := ⟨_, rfl⟩
  rw [hl] at hlen ⊢
  have HW := Lib.hid hw; have H1 := Lib.hid h1; have H2 := Lib.hid h2; have H3 := Lib.hid h3; have HL := Lib.hid hlen; have HE := Lib.hid hl
  clear hw h1 h2 h3 hlen hl
  go_enter Tryz.func25, Tryz.ntmps25
  go_upto_region 1 with fail
  refine wp_world (fun wx => OwnL wx w.heap.size l ∧ OwnL wx (w.heap.size + 1) any19 ∧ Below w.heap.size w wx) ⟨(OwnL.made w l 33).alloc, by
      have h := OwnL.made (w.alloc (.cells l.toArray 33)) any19 71
      have e : (w.alloc (.cells l.toArray 33)).heap.size = w.heap.size + 1 := by simp
      rw [e] at h; exact h, by (with_reducible (repeat' (first | exact Below.refl _ _ | assumption | apply bl_alloc | apply bl_drewN | apply bl_drew | refine bl_set ?_ ?_ _))) <;> (first | done | (simp; done) | (simp; omega) | omega)⟩ ?_
  rintro w1 ⟨oK, oZ, hB1⟩
  rw [← HE.out] at oK
  have g0 : w1.cell? ⟨w.heap.size, 0, none⟩ = some (.int .u32 a.proc) := oK.2.1 0
  have g2 : w1.cell? ⟨w.heap.size, 2, none⟩ = some (.string ⟨a.name.toArray⟩) := oK.2.1 2
  have g4 : w1.cell? ⟨w.heap.size, 4, none⟩ = some (.string ⟨a.name2.toArray⟩) := oK.2.1 4
  have g19 : w1.cell? ⟨w.heap.size, 19, none⟩ = some (.bool a.hasGuard) := oK.2.1 19
  have g22 : w1.cell? ⟨w.heap.size, 22, none⟩ = some (.int .u32 a.bits) := oK.2.1 22
  have g23 : w1.cell? ⟨w.heap.size, 23, none⟩ = some (.int .u64 a.offset) := oK.2.1 23
  have g24 : w1.cell? ⟨w.heap.size, 24, none⟩ = some (.int .u32 a.count) := oK.2.1 24
  have g25 : w1.cell? ⟨w.heap.size, 25, none⟩ = some (.int .u32 a.max) := oK.2.1 25
  have g26 : w1.cell? ⟨w.heap.size, 26, none⟩ = some (.int .u32 a.stable) := oK.2.1 26
  have g28 : w1.cell? ⟨w.heap.size, 28, none⟩ = some (.string ⟨a.target.toArray⟩) := oK.2.1 28
  have g29 : w1.cell? ⟨w.heap.size, 29, none⟩ = some (.int .u32 a.how) := oK.2.1 29
  have g30 : w1.cell? ⟨w.heap.size, 30, none⟩ = some (.int .u32 a.kind) := oK.2.1 30
  have g1 : w1.cell? ⟨w.heap.size, 1, none⟩ = some v1 := oK.2.1 1
  have g3 : w1.cell? ⟨w.heap.size, 3, none⟩ = some v2 := oK.2.1 3
  have g27 : w1.cell? ⟨w.heap.size, 27, none⟩ = some v3 := oK.2.1 27
  have g39 : w1.cell? ⟨w.heap.size, 39, none⟩ = some (.int .u64 a.cookie) := by
    obtain ⟨a0, a1, a2, a3, a4, a5, a6, a7, hv⟩ := len8 HW.out.verf
    have := oK.2.1 39
    simp only [arC, hv] at this
    exact this
  have R5 : w1.rangeAt w.heap.size 5 (encSet a.set) := oK.rangeTake rfl
  have R20 : w1.rangeAt w.heap.size 20 (encT a.guard) := oK.rangeTake rfl
  have R31 : w1.rangeAt w.heap.size 31 (encV a.verf) := oK.rangeTake (by
      obtain ⟨a0, a1, a2, a3, a4, a5, a6, a7, hv⟩ := len8 HW.out.verf
      simp only [arC, hv]
      rfl)
  have hr1 := H1.out.below hB1; have hr2 := H2.out.below hB1; have hr3 := H3.out.below hB1
  have hc1 := convert_rd hr1; have hc2 := convert_rd hr2; have hc3 := convert_rd hr3
  unfold strV at hc1 hc2 hc3
  have HR5 := Lib.hid R5; have HR20 := Lib.hid R20; have HR31 := Lib.hid R31
  have hv8 := encV_len a.verf
  rw [HW.out.verf] at hv8
  have HV8 := Lib.hid hv8
  clear oK R5 R20 R31 hr1 hr2 hr3 hv8
  go_wp2_with (first
    | (refine wpList_load_mid rfl 30 _ rfl w.heap.size 5 rfl (encSet a.set) _ HR5.out Tryz.underlying30 rfl (by kernel_rfl) ?_)
    | (refine wpList_load_mid rfl 28 _ rfl w.heap.size 20 rfl (encT a.guard) _ HR20.out Tryz.underlying28 rfl (by kernel_rfl) ?_)
    | (refine wpList_load_mid rfl 31 _ rfl w.heap.size 31 rfl (encV a.verf) _ HR31.out Tryz.underlying31 rfl (by rw [HV8.out]; kernel_rfl) ?_)
    | (refine wpList_store_mid rfl 71 _ _ rfl (w.heap.size + 1) 0 (allL a).toArray rfl rfl oZ.there (by kernel_rfl) (all_oneCell_toArray (allL_one a)) ?_))
  have oZ2 := oZ.sets (vs := allL a) rfl
  refine bodyPost_ret (v := .agg (allL a).toArray) (results_cell Tryz.results25 rfl oZ2 Tryz.underlying71 rfl (by kernel_rfl)) rfl ⟨rfl, bl_setCells hB1 (Nat.le_succ _)⟩
end Go.Proofs.YtgmhapjidbdhnaaGreat

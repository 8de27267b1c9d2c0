/- Whatever handle and whatever name come, ArgsFile answers true. No condition. Printed by gen_rows.py. -/
import Derived.Test.YtgmhapjidbdhnaaGreatJA
import Derived.Test.YtgmhapjidbdhnaaGreatJF
import Derived.Test.YtgmhapjidbdhnaaGreatJG
import Derived.Test.YtgmhapjidbdhnaaGreatArRowW
import Derived.Test.YtgmhapjidbdhnaaGreatLArFile
set_option linter.unusedVariables false
namespace Go.Proofs.YtgmhapjidbdhnaaGreat
open Go.ChangeShapes Go.WideShapes Go.ChangeAt Go.RowKit

set_option maxRecDepth 100000 in
theorem argsFile_lifted (os : Os) (started : os.Started) (H : Type) (enc : TypeId × Value → H) :
    ReturnsInHanded {} Tryz.checked os 5 .any (Rows.argsFileSpec.pre6 enc Tryz.prog Tryz.f5 Rows.argsFileRow.domain false) (Rows.argsFileSpec.post enc Tryz.prog Tryz.f5 false true false false) := by
  refine handed_weights (C := Tryz.checked) own started (by kernel_rfl) Tryz.func5
    (ChangeSpec.witness6 (enc := enc) (C := Tryz.checked) false ⟨#[], #[.slice none 0 0, .string ⟨#[]⟩], []⟩ 8 (by kernel_rfl) (by kernel_rfl) (by kernel_rfl) (by kernel_rfl)) ?_
  intro W base args ds gs before hval0 hW hcnd hwt _
  have hval : ∀ (j : Nat) t v, Tryz.f5.params[j]? = some t → args[j]? = some v → Value.okWide Tryz.prog W .any base t v := hval0
  have hW' := hW
  obtain ⟨p, q, hA0, hV, rfl, hfz, hnd⟩ := hW
  have hA : DataW.TrodAll enc Tryz.prog W 0 (fun _ => true) true Tryz.f5.params.toList args.toList ds p := hA0
  rw [Tryz.params5] at hA hval
  obtain ⟨v0, vs0, d0, ds0, p0, q0, hargs, rfl, rfl, h0, r0⟩ := trodAll_cons hA
  obtain ⟨v1, vs1, d1, ds1, p1, q1, rfl, rfl, rfl, h1, r1⟩ := trodAll_cons r0
  obtain ⟨rfl, rfl, rfl⟩ := trodAll_nil r1
  obtain rfl : args = #[v0, v1] := by cases args; simp_all
  obtain ⟨rfl, rfl⟩ := trodVars_none hV
  have k0 := h0
  have lt0 : ∀ x ∈ p0, x.block < W.heap.size := by obtain ⟨m, hm⟩ := k0; exact DataW.trod_lt m _ _ _ hm
  have k1 := h1
  have lt1 : ∀ x ∈ p1, x.block < W.heap.size := by obtain ⟨m, hm⟩ := k1; exact DataW.trod_lt m _ _ _ hm
  obtain ⟨A0, l0, c0, xs0, rfl, w0, x0⟩ := open_rd Tryz.underlying24 Tryz.underlying5 (by kernel_rfl) (hval 0 24 v0 rfl rfl) h0
  obtain ⟨xs1, rfl, rfl, y1⟩ := open_str Tryz.underlying9 (hval 1 9 v1 rfl rfl) h1
  have z1 := weight_str (weight_at _ _ 1 hwt rfl rfl)
  clear hA0 hval0
  refine (LArgsFile w0 x0 (rd_bound w0) z1).mono fun e W' ⟨he, bel⟩ => ?_
  subst he
  exact ⟨_, rfl, _, _, _, [], _, [], hW', trodAll_mk1 (shut_bool Tryz.underlying4 _), (trodAll_cons_mk (Below.trod laidOut (by kernel_rfl) (of_decide_eq_true (by kernel_rfl)) k0 bel lt0) (trodAll_cons_mk (Below.trod laidOut (by kernel_rfl) (of_decide_eq_true (by kernel_rfl)) k1 bel lt1) trodAll_mk0)), rfl, bel.frame _, fun h => by cases h⟩

theorem argsFile_over : Rows.argsFileRow.holds Tryz.pinned (OpenSpec.ofChange Rows.argsFileSpec) :=
  OpenClaim.holds_of_wide 5 Tryz.f5 rfl rfl rfl rfl rfl rfl rfl ⟨rfl, rfl, rfl, rfl, rfl⟩ rfl rfl rfl rfl rfl (by kernel_rfl) Tryz.func5 (by kernel_rfl)
    (of_decide_eq_true (by kernel_rfl)) (by unfold Func.isWrapper; first | (rw [if_pos (by decide +kernel)]; kernel_rfl) | (rw [if_neg (by decide +kernel)]; exact ⟨rfl, rfl⟩))
    (fun os started H enc _ => argsFile_lifted os started H enc)

theorem argsFile_proved : Rows.ArgsFileSaid := argsFile_over
#print axioms argsFile_proved
end Go.Proofs.YtgmhapjidbdhnaaGreat

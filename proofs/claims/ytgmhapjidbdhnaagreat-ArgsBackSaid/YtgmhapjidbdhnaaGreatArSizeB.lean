/- How great what is asked is: wharfingerlaw01.ArgsSize. -/
import Derived.Test.YtgmhapjidbdhnaaGreatJQ
set_option linter.unusedVariables false
set_option linter.unusedSimpArgs false
namespace Go.Proofs.YtgmhapjidbdhnaaGreat
open Go.RowKit
section
variable {w : World}
set_option maxRecDepth 100000 in
theorem BytesSize_any {A : Option Addr} {n c : Nat} : Calls Tryz.prog 22 #[.slice A n c] w fun e w' => e = .returned (.int .i64 (n : Int)) ∧ Below w.heap.size w w' := by
  go_enter Tryz.func22, Tryz.ntmps22
  go_wp2
  go_ret
  exact ⟨rfl, Below.refl _ _⟩
set_option maxRecDepth 100000 in
set_option maxHeartbeats 4000000 in
theorem ArgsSize_some {a : Ar} {v1 v2 v3 : Value} (hw : ArWf a) (h1 : Rd w v1 a.h) (h2 : Rd w v2 a.h2) (h3 : Rd w v3 a.data) :
    Calls Tryz.prog 11 #[.agg (arC v1 v2 v3 a).toArray] w fun e w' => ∃ s : Int, e = .returned (.int .i64 s) ∧ Below w.heap.size w w' := by
  have hlen := arC_len (v1 := v1) (v2 := v2) (v3 := v3) hw.verf
  obtain ⟨A1, c1, e1, -, -, -, -⟩ := h1.bs
  obtain ⟨A2, c2, e2, -, -, -, -⟩ := h2.bs
  obtain ⟨A3, c3, e3, -, -, -, -⟩ := h3.bs
  obtain ⟨l, hl⟩ : ∃ l, arC v1 v2 v3 a = l := ⟨_, rfl⟩
  rw [hl] at hlen ⊢
  have HL := Lib.hid hlen
  clear hw h1 h2 h3 hlen
  go_enter Tryz.func11, Tryz.ntmps11
  go_upto_region 1 with fail
  refine wp_world (fun wx => OwnL wx w.heap.size l ∧ Below w.heap.size w wx) ⟨OwnL.made w l 33, by (with_reducible (repeat' (first | exact Below.refl _ _ | assumption | apply bl_alloc | apply bl_drewN | apply bl_drew | refine bl_set ?_ ?_ _))) <;> (first | done | (simp; done) | (simp; omega) | omega)⟩ ?_
  rintro w1 ⟨oK, hB1⟩
  rw [← hl] at oK
  have g1 : w1.cell? ⟨w.heap.size, 1, none⟩ = some v1 := oK.2.1 1
  have g2 : w1.cell? ⟨w.heap.size, 2, none⟩ = some (.string ⟨a.name.toArray⟩) := oK.2.1 2
  have g3 : w1.cell? ⟨w.heap.size, 3, none⟩ = some v2 := oK.2.1 3
  have g4 : w1.cell? ⟨w.heap.size, 4, none⟩ = some (.string ⟨a.name2.toArray⟩) := oK.2.1 4
  have g27 : w1.cell? ⟨w.heap.size, 27, none⟩ = some v3 := oK.2.1 27
  have g28 : w1.cell? ⟨w.heap.size, 28, none⟩ = some (.string ⟨a.target.toArray⟩) := oK.2.1 28
  subst e1; subst e2; subst e3
  have hlt := oK.1
  clear oK hl HL
  generalize Value.agg l.toArray = gl
  generalize a.h.length = n1 at *
  generalize a.h2.length = n2 at *
  generalize a.data.length = n3 at *
  generalize (ByteArray.mk a.name.toArray) = x1 at *
  generalize (ByteArray.mk a.name2.toArray) = x2 at *
  generalize (ByteArray.mk a.target.toArray) = x3 at *
  go_upto_region 2 with fail
  generalize wrap64 (wrap64 (wrap64 (1 + (x1.size : Int)) + x2.size) + x3.size) = s0
  generalize wrap64 (wrap64 (1 + (x1.size : Int)) + x2.size) = s1
  generalize wrap64 (1 + (x1.size : Int)) = s2
  have HB := Lib.hid hB1
  clear hB1
  by_cases k0 : s0 ≤ 1048576
  rotate_left
  · go_wp2
    go_ret
    first | exact HB.out | exact ⟨⟨_, rfl⟩, HB.out⟩ | exact ⟨_, rfl, HB.out⟩
  go_upto_region 4 with (go_at_call 22; (refine Calls.mono BytesSize_any ?_); rintro e wa ⟨rfl, ba⟩; (have HB := Lib.hid (bl_then HB.out ba)); (have g1 := ((bcell ba).1 _ 1 hlt).trans g1); (have g3 := ((bcell ba).1 _ 3 hlt).trans g3); (have g27 := ((bcell ba).1 _ 27 hlt).trans g27); (have hlt := Nat.lt_of_lt_of_le hlt ba.size); clear ba)
  generalize wrap64 (s0 + (n1 : Int)) = s0
  clear k0
  by_cases k1 : s0 ≤ 1048576
  rotate_left
  · go_wp2
    go_ret
    first | exact HB.out | exact ⟨⟨_, rfl⟩, HB.out⟩ | exact ⟨_, rfl, HB.out⟩
  go_upto_region 6 with (go_at_call 22; (refine Calls.mono BytesSize_any ?_); rintro e wa ⟨rfl, ba⟩; (have HB := Lib.hid (bl_then HB.out ba)); (have g1 := ((bcell ba).1 _ 1 hlt).trans g1); (have g3 := ((bcell ba).1 _ 3 hlt).trans g3); (have g27 := ((bcell ba).1 _ 27 hlt).trans g27); (have hlt := Nat.lt_of_lt_of_le hlt ba.size); clear ba)
  generalize wrap64 (s0 + (n2 : Int)) = s0
  clear k1
  by_cases k2 : s0 ≤ 1048576
  rotate_left
  · go_wp2
    go_ret
    first | exact HB.out | exact ⟨⟨_, rfl⟩, HB.out⟩ | exact ⟨_, rfl, HB.out⟩
  go_wp2_with (go_at_call 22; (refine Calls.mono BytesSize_any ?_); rintro e wa ⟨rfl, ba⟩; (have HB := Lib.hid (bl_then HB.out ba)); (have g1 := ((bcell ba).1 _ 1 hlt).trans g1); (have g3 := ((bcell ba).1 _ 3 hlt).trans g3); (have g27 := ((bcell ba).1 _ 27 hlt).trans g27); (have hlt := Nat.lt_of_lt_of_le hlt ba.size); clear ba)
  go_ret
  first | exact HB.out | exact ⟨⟨_, rfl⟩, HB.out⟩ | exact ⟨_, rfl, HB.out⟩
end
end Go.Proofs.YtgmhapjidbdhnaaGreat

/- Chapter 11's own check: it is true. -/
import Derived.Test.YtgmhapjidbdhnaaGreatArPut
import Derived.Test.YtgmhapjidbdhnaaGreatJI
import Derived.Lib.SlBytesConst
set_option linter.unusedVariables false
set_option linter.unusedSimpArgs false
namespace Go.Proofs.YtgmhapjidbdhnaaGreat
open Go.RowKit
def aLook : Ar := {Ar.zero 3 with h := [7], name := [97, 98]}
def bLook : List UInt8 := [0, 0, 0, 1, 7, 0, 0, 0, 0, 0, 0, 2, 97, 98, 0, 0]
def bShort : List UInt8 := [0, 0, 0, 1, 7, 0, 0]
def aBits : Ar := {Ar.zero 0 with bits := 1}
def aStable : Ar := {Ar.zero 7 with stable := 3}
theorem put_look : putA aLook = .ok bLook := by kernel_rfl
theorem get_look : getA 3 bLook = .ok aLook := by kernel_rfl
theorem get_bad : getA 1 bShort = .error 4 := by kernel_rfl
theorem put_bits : putA aBits = .error 1 := by kernel_rfl
theorem put_stable : putA aStable = .error 1 := by kernel_rfl
theorem get_none : getA 22 [] = .error 1 := by kernel_rfl
theorem look_wf : ArWf aLook := ⟨by decide, z0, z1, z3, z2, z3, z3, z3, z3, z3, rfl, z2⟩
theorem bits_wf : ArWf aBits := ⟨by decide, z0, z1, by decide, z2, z3, z3, z3, z3, z3, rfl, z2⟩
theorem stable_wf : ArWf aStable := ⟨by decide, z0, z1, z3, z2, z3, z3, by decide, z3, z3, rfl, z2⟩
theorem arZ_one : ∀ v ∈ arZ, v.oneCell' = true := arC_one rfl rfl rfl
theorem rd_nil (w : World) : Rd w nilS [] := .inl ⟨rfl, rfl⟩
theorem cell_marked {w : World} {C : Array Value} {e : TypeId} {m : Nat × Nat} {v : Value} (j : Nat) (hv : C[j]? = some v) : (w.alloc (.cells C e m)).cell? ⟨w.heap.size, j, none⟩ = some v := by
  have h : (w.alloc (.cells C e m)).heap[w.heap.size]? = some (.cells C e m) := by
    show (w.heap.push (.cells C e m))[w.heap.size]? = _
    simp
  unfold World.cell?
  simp only [h]
  exact hv
section
variable {w : World}
theorem PutPost.okay {r : Except Int (List UInt8)} {bs : List UInt8} {w w' : World} {e : Ending} (h : PutPost r w e w') (hr : r = .ok bs) : ∃ v, e = .returned (.tuple #[v, .int .i64 0]) ∧ OwnB w' w.heap.size v bs ∧ Below w.heap.size w w' := by
  obtain ⟨hb, ⟨bs', v, e1, e2, o⟩ | ⟨er, e1, _⟩⟩ := h
  · rw [hr] at e1; injection e1 with e1; subst e1; exact ⟨v, e2, o, hb⟩
  · rw [hr] at e1; cases e1
theorem PutPost.fails {r : Except Int (List UInt8)} {er : Int} {w w' : World} {e : Ending} (h : PutPost r w e w') (hr : r = .error er) : e = .returned (.tuple #[nilS, .int .i64 er]) ∧ Below w.heap.size w w' := by
  obtain ⟨hb, ⟨bs', v, e1, _⟩ | ⟨er', e1, e2⟩⟩ := h
  · rw [hr] at e1; cases e1
  · rw [hr] at e1; injection e1 with e1; subst e1; exact ⟨e2, hb⟩
theorem ArGot.okay {p : Nat} {xs : List UInt8} {a : Ar} {w w' : World} {e : Ending} (h : ArGot p xs w e w') (hr : getA p xs = .ok a) : ∃ v1 v2 v3, e = .returned (.tuple #[.agg (arC v1 v2 v3 a).toArray, .int .i64 0]) ∧ ArOut w.heap.size w' a v1 v2 v3 ∧ Below w.heap.size w w' := by
  obtain ⟨hb, ⟨a', v1, v2, v3, e1, o, e2⟩ | ⟨er, e1, _⟩⟩ := h
  · rw [hr] at e1; injection e1 with e1; subst e1; exact ⟨v1, v2, v3, e2, o, hb⟩
  · rw [hr] at e1; cases e1
theorem ArGot.fails {p : Nat} {xs : List UInt8} {er : Int} {w w' : World} {e : Ending} (h : ArGot p xs w e w') (hr : getA p xs = .error er) : e = .returned (.tuple #[.agg arZ.toArray, .int .i64 er]) ∧ Below w.heap.size w w' := by
  obtain ⟨hb, ⟨a', v1, v2, v3, e1, _⟩ | ⟨er', e1, _, e2⟩⟩ := h
  · rw [hr] at e1; cases e1
  · rw [hr] at e1; injection e1 with e1; subst e1; exact ⟨e2, hb⟩
theorem Put_look {g c : Nat} (h : Rd w (.slice (some ⟨g, 0, none⟩) 1 c) [7]) : Calls Tryz.prog 12 #[.agg (arC (.slice (some ⟨g, 0, none⟩) 1 c) nilS nilS aLook).toArray] w fun e w' => ∃ v, e = .returned (.tuple #[v, .int .i64 0]) ∧ OwnB w' w.heap.size v bLook ∧ Below w.heap.size w w' :=
  Calls.mono (Put_walk look_wf h (rd_nil w) (rd_nil w)) fun e w' h => h.okay put_look
theorem Put_bits : Calls Tryz.prog 12 #[.agg (arC nilS nilS nilS aBits).toArray] w fun e w' => e = .returned (.tuple #[nilS, .int .i64 1]) ∧ Below w.heap.size w w' :=
  Calls.mono (Put_walk bits_wf (rd_nil w) (rd_nil w) (rd_nil w)) fun e w' h => h.fails put_bits
theorem Put_stable : Calls Tryz.prog 12 #[.agg (arC nilS nilS nilS aStable).toArray] w fun e w' => e = .returned (.tuple #[nilS, .int .i64 1]) ∧ Below w.heap.size w w' :=
  Calls.mono (Put_walk stable_wf (rd_nil w) (rd_nil w) (rd_nil w)) fun e w' h => h.fails put_stable
theorem Get_look {v : Value} (h : Rd w v bLook) : Calls Tryz.prog 13 #[.int .u32 3, v] w fun e w' => ∃ v1 v2 v3, e = .returned (.tuple #[.agg (arC v1 v2 v3 aLook).toArray, .int .i64 0]) ∧ ArOut w.heap.size w' aLook v1 v2 v3 ∧ Below w.heap.size w w' :=
  Calls.mono (Get_any (p := 3) (by decide) h (by decide)) fun e w' h => h.okay get_look
theorem Get_bad {v : Value} (h : Rd w v bShort) : Calls Tryz.prog 13 #[.int .u32 1, v] w fun e w' => e = .returned (.tuple #[.agg arZ.toArray, .int .i64 4]) ∧ Below w.heap.size w w' :=
  Calls.mono (Get_any (p := 1) (by decide) h (by decide)) fun e w' h => h.fails get_bad
theorem Get_none : Calls Tryz.prog 13 #[.int .u32 22, nilS] w fun e w' => e = .returned (.tuple #[.agg arZ.toArray, .int .i64 1]) ∧ Below w.heap.size w w' :=
  Calls.mono (Get_any (p := 22) (by decide) (rd_nil w) (by decide)) fun e w' h => h.fails get_none
set_option maxRecDepth 100000 in
set_option maxHeartbeats 4000000 in
theorem alive_any : Calls Tryz.prog 10 #[] w fun e w' => e = .returned (.bool true) ∧ Below w.heap.size w w' := by
  go_enter Tryz.func10, Tryz.ntmps10
  have h7 : Rd (w.alloc (.cells #[.int .u8 7] 5)) (.slice (some ⟨w.heap.size, 0, none⟩) 1 1) [7] := .inr ⟨w.heap.size, 0, 1, rfl, by decide, by decide, by simp, fun j hj => by
    have hj : j < 1 := hj
    obtain rfl : j = 0 := by omega
    simp [go_sem]⟩
  have H7 := Lib.hid h7
  clear h7
  go_upto_region 2 with (go_at_call 12; (refine Calls.mono (Put_look H7.out) ?_); rintro e w1 ⟨v, rfl, o1, b1⟩; (have HO1 := Lib.hid o1); (have HB1 := Lib.hid (show Below w.heap.size w w1 from bl_then (bl_alloc (Below.refl _ _) _) b1)); clear o1 b1)
  generalize Value.agg _ = g0
  go_upto_region 3 with (first
    | (go_at_call 13; (refine Calls.mono (Get_look HO1.out.rd) ?_); rintro e w2 ⟨v1, v2, v3, rfl, hout, b2⟩; (obtain ⟨A1, c1, hv1, _, _, _, _⟩ := hout.h1.bs); (have HV1 := Lib.hid hv1); clear hv1; (have HOut := Lib.hid hout); (have HB2 := Lib.hid (bl_then HB1.out b2)); (have HO2 := Lib.hid (HO1.out.below b2)); clear hout b2 HB1 HO1)
    | (refine wpList_store_new rfl 33 _ _ rfl (arC v1 v2 v3 aLook) rfl rfl rfl (by kernel_rfl) (arC_one HOut.out.h1.one HOut.out.h2.one HOut.out.h3.one) ?_; intro w3 b3 oA; (have HB3 := Lib.hid (bl_then HB2.out b3)); (have HO3 := Lib.hid (HO2.out.below b3)); (have HH := Lib.hid (HOut.out.h1.below b3)); clear b3 HB2 HO2 HOut))
  obtain rfl := HV1.out
  clear HV1
  have h7 : Rd (w3.alloc (.cells #[.int .u8 0, .int .u8 0, .int .u8 0, .int .u8 1, .int .u8 7, .int .u8 0, .int .u8 0] 5 (7, 8))) (.slice (some ⟨w3.heap.size, 0, none⟩) 7 7) bShort := .inr ⟨w3.heap.size, 0, 7, rfl, by decide, by decide, by simp, fun j hj => by
    have hj : j < 7 := hj
    match j, hj with
    | 0, _ => exact cell_marked 0 rfl
    | 1, _ => exact cell_marked 1 rfl
    | 2, _ => exact cell_marked 2 rfl
    | 3, _ => exact cell_marked 3 rfl
    | 4, _ => exact cell_marked 4 rfl
    | 5, _ => exact cell_marked 5 rfl
    | 6, _ => exact cell_marked 6 rfl⟩
  have H8 := Lib.hid h7
  have kc : (convert 24 24 (.slice (some ⟨w3.heap.size, 0, none⟩) 7 7)).run Tryz.prog (w3.alloc (.cells #[.int .u8 0, .int .u8 0, .int .u8 0, .int .u8 1, .int .u8 7, .int .u8 0, .int .u8 0] 5)) = .ok (.slice (some ⟨w3.heap.size, 0, none⟩) 7 7) (w3.alloc (.cells #[.int .u8 0, .int .u8 0, .int .u8 0, .int .u8 1, .int .u8 7, .int .u8 0, .int .u8 0] 5 (7, 8))) := Lib.run_convert_bytes_const w3 _ _ _ 7 7 Tryz.underlying24 Tryz.underlying5
  clear h7 H7
  go_upto_region 4 with (first
    | (go_at_call 13; (refine Calls.mono (Get_bad H8.out) ?_); rintro e w4 ⟨rfl, b4⟩; (have HB4 := Lib.hid (bl_then (bl_alloc (Below.refl w3.heap.size w3) (.cells #[.int .u8 0, .int .u8 0, .int .u8 0, .int .u8 1, .int .u8 7, .int .u8 0, .int .u8 0] 5 (7, 8))) b4)); clear b4)
    | (refine wpList_store_new rfl 33 _ _ rfl arZ rfl rfl rfl (by kernel_rfl) arZ_one ?_; intro w5 b5 oB; (have HB5 := Lib.hid (bl_then HB4.out b5))))
  have HX5 := Lib.hid (show OwnL w5 w2.heap.size (arC (.slice A1 [7].length c1) v2 v3 aLook) ∧ Rd w5 v bLook ∧ Below w.heap.size w w5 from ⟨oA.trk HB5.out, HO3.out.rd.below HB5.out, bl_then HB3.out HB5.out⟩)
  clear oA HO3 HB3 HB5 H8 HH
  go_upto_region 5 with (go_at_call 12; (refine Calls.mono Put_bits ?_); rintro e w6 ⟨rfl, b6⟩; (have HB6 := Lib.hid b6); clear b6)
  go_upto_region 6 with (go_at_call 12; (refine Calls.mono Put_stable ?_); rintro e w7 ⟨rfl, b7⟩; (have HB7 := Lib.hid (bl_then HB6.out b7)); clear b7 HB6)
  go_upto_region 7 with (first
    | (go_at_call 13; (refine Calls.mono Get_none ?_); rintro e w8 ⟨rfl, b8⟩; (have HB8 := Lib.hid (bl_then HB7.out b8)); clear b8 HB7)
    | (refine wpList_store_new rfl 33 _ _ rfl arZ rfl rfl rfl (by kernel_rfl) arZ_one ?_; intro w9 b9 oC; (have HB9 := Lib.hid (bl_then HB8.out b9)); clear b9 HB8 oC))
  have oA := HX5.out.1.trk HB9.out
  have oV := HX5.out.2.1.below HB9.out
  have hB := bl_then HX5.out.2.2 HB9.out
  clear HX5 HB9
  have g0 : w9.cell? ⟨w2.heap.size, 0, none⟩ = some (.int .u32 3) := oA.2.1 0
  have g1 : w9.cell? ⟨w2.heap.size, 1, none⟩ = some (.slice A1 1 c1) := oA.2.1 1
  have g2 : w9.cell? ⟨w2.heap.size, 2, none⟩ = some (.string ⟨#[97, 98]⟩) := oA.2.1 2
  have hcv : (convert 24 9 v).run Tryz.prog w9 = .ok (.string ⟨#[0, 0, 0, 1, 7, 0, 0, 0, 0, 0, 0, 2, 97, 98, 0, 0]⟩) w9 := convert_rd oV
  clear oA oV
  go_wp2
  go_ret
  exact ⟨rfl, hB⟩
end
end Go.Proofs.YtgmhapjidbdhnaaGreat

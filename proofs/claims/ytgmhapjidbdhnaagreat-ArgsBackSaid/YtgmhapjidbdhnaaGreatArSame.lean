/- Two copies of what is asked are the same: wharfingerlaw01.SameArgs. -/
import Derived.Test.YtgmhapjidbdhnaaGreatArEq
import Derived.Test.YtgmhapjidbdhnaaGreatJH
set_option linter.unusedVariables false
set_option linter.unusedSimpArgs false
namespace Go.Proofs.YtgmhapjidbdhnaaGreat
open Go.RowKit
section
variable {w : World}
/-- The cells of a row, one by one. -/
structure RowAt (w : World) (K : Nat) (a : Ar) (v1 v2 v3 : Value) (b0 b1 b2 b3 b4 b5 b6 b7 : UInt8) : Prop where
  own : OwnL w K (arC v1 v2 v3 a)
  g0 : w.cell? ⟨K, 0, none⟩ = some (.int .u32 a.proc)
  g2 : w.cell? ⟨K, 2, none⟩ = some (.string ⟨a.name.toArray⟩)
  g4 : w.cell? ⟨K, 4, none⟩ = some (.string ⟨a.name2.toArray⟩)
  g5 : w.cell? ⟨K, 5, none⟩ = some (.bool a.set.hasMode)
  g6 : w.cell? ⟨K, 6, none⟩ = some (.int .u32 a.set.mode)
  g7 : w.cell? ⟨K, 7, none⟩ = some (.bool a.set.hasUser)
  g8 : w.cell? ⟨K, 8, none⟩ = some (.int .u32 a.set.user)
  g9 : w.cell? ⟨K, 9, none⟩ = some (.bool a.set.hasGroup)
  g10 : w.cell? ⟨K, 10, none⟩ = some (.int .u32 a.set.group)
  g11 : w.cell? ⟨K, 11, none⟩ = some (.bool a.set.hasSize)
  g12 : w.cell? ⟨K, 12, none⟩ = some (.int .u64 a.set.size)
  g13 : w.cell? ⟨K, 13, none⟩ = some (.int .u32 a.set.readHow)
  g14 : w.cell? ⟨K, 14, none⟩ = some (.int .u32 a.set.read.sec)
  g15 : w.cell? ⟨K, 15, none⟩ = some (.int .u32 a.set.read.nano)
  g16 : w.cell? ⟨K, 16, none⟩ = some (.int .u32 a.set.writeHow)
  g17 : w.cell? ⟨K, 17, none⟩ = some (.int .u32 a.set.write.sec)
  g18 : w.cell? ⟨K, 18, none⟩ = some (.int .u32 a.set.write.nano)
  g19 : w.cell? ⟨K, 19, none⟩ = some (.bool a.hasGuard)
  g20 : w.cell? ⟨K, 20, none⟩ = some (.int .u32 a.guard.sec)
  g21 : w.cell? ⟨K, 21, none⟩ = some (.int .u32 a.guard.nano)
  g22 : w.cell? ⟨K, 22, none⟩ = some (.int .u32 a.bits)
  g23 : w.cell? ⟨K, 23, none⟩ = some (.int .u64 a.offset)
  g24 : w.cell? ⟨K, 24, none⟩ = some (.int .u32 a.count)
  g25 : w.cell? ⟨K, 25, none⟩ = some (.int .u32 a.max)
  g26 : w.cell? ⟨K, 26, none⟩ = some (.int .u32 a.stable)
  g28 : w.cell? ⟨K, 28, none⟩ = some (.string ⟨a.target.toArray⟩)
  g29 : w.cell? ⟨K, 29, none⟩ = some (.int .u32 a.how)
  g30 : w.cell? ⟨K, 30, none⟩ = some (.int .u32 a.kind)
  g1 : w.cell? ⟨K, 1, none⟩ = some (v1)
  g3 : w.cell? ⟨K, 3, none⟩ = some (v2)
  g27 : w.cell? ⟨K, 27, none⟩ = some (v3)
  g31 : w.cell? ⟨K, 31, none⟩ = some (.int .u8 ((b0 : UInt8).toNat : Int))
  g32 : w.cell? ⟨K, 32, none⟩ = some (.int .u8 ((b1 : UInt8).toNat : Int))
  g33 : w.cell? ⟨K, 33, none⟩ = some (.int .u8 ((b2 : UInt8).toNat : Int))
  g34 : w.cell? ⟨K, 34, none⟩ = some (.int .u8 ((b3 : UInt8).toNat : Int))
  g35 : w.cell? ⟨K, 35, none⟩ = some (.int .u8 ((b4 : UInt8).toNat : Int))
  g36 : w.cell? ⟨K, 36, none⟩ = some (.int .u8 ((b5 : UInt8).toNat : Int))
  g37 : w.cell? ⟨K, 37, none⟩ = some (.int .u8 ((b6 : UInt8).toNat : Int))
  g38 : w.cell? ⟨K, 38, none⟩ = some (.int .u8 ((b7 : UInt8).toNat : Int))
  g39 : w.cell? ⟨K, 39, none⟩ = some (.int .u64 a.cookie)
theorem RowAt.of {w : World} {K : Nat} {a : Ar} {v1 v2 v3 : Value} {b0 b1 b2 b3 b4 b5 b6 b7 : UInt8} (oK : OwnL w K (arC v1 v2 v3 a)) (hv : a.verf = [b0, b1, b2, b3, b4, b5, b6, b7]) : RowAt w K a v1 v2 v3 b0 b1 b2 b3 b4 b5 b6 b7 := by
  have hl : ∀ o, w.cell? ⟨K, o, none⟩ = ([.int .u32 a.proc, v1, strV a.name, v2, strV a.name2] ++ encSet a.set ++ [.bool a.hasGuard] ++ encT a.guard ++
    [.int .u32 a.bits, .int .u64 a.offset, .int .u32 a.count, .int .u32 a.max, .int .u32 a.stable, v3, strV a.target, .int .u32 a.how, .int .u32 a.kind] ++ encV [b0, b1, b2, b3, b4, b5, b6, b7] ++ [.int .u64 a.cookie])[o]? := by
    have h := oK.2.1
    unfold arC at h
    rw [hv] at h
    exact h
  exact ⟨oK, hl 0, hl 2, hl 4, hl 5, hl 6, hl 7, hl 8, hl 9, hl 10, hl 11, hl 12, hl 13, hl 14, hl 15, hl 16, hl 17, hl 18, hl 19, hl 20, hl 21, hl 22, hl 23, hl 24, hl 25, hl 26, hl 28, hl 29, hl 30, hl 1, hl 3, hl 27, hl 31, hl 32, hl 33, hl 34, hl 35, hl 36, hl 37, hl 38, hl 39⟩
set_option maxRecDepth 100000 in
set_option maxHeartbeats 4000000 in
theorem SameArgs_self {a : Ar} {u1 u2 u3 v1 v2 v3 : Value} (hw : ArWf a) (k1 : Rd w u1 a.h) (k2 : Rd w u2 a.h2) (k3 : Rd w u3 a.data) (h1 : Rd w v1 a.h) (h2 : Rd w v2 a.h2) (h3 : Rd w v3 a.data) :
    Calls Tryz.prog 14 #[.agg (arC u1 u2 u3 a).toArray, .agg (arC v1 v2 v3 a).toArray] w fun e w' => e = .returned (.bool true) ∧ Below w.heap.size w w' := by
  obtain ⟨l, hl⟩ : ∃ l, arC u1 u2 u3 a = l := ⟨_, rfl⟩
  obtain ⟨l', hl'⟩ : ∃ l, arC v1 v2 v3 a = l := ⟨_, rfl⟩
  have hx := arC_len (v1 := u1) (v2 := u2) (v3 := u3) hw.verf
  have hy := arC_len (v1 := v1) (v2 := v2) (v3 := v3) hw.verf
  rw [hl] at hx ⊢
  rw [hl'] at hy ⊢
  have HX := Lib.hid hx; have HY := Lib.hid hy
  obtain ⟨b0, b1, b2, b3, b4, b5, b6, b7, hv⟩ := len8 hw.verf
  have HW := Lib.hid (⟨hw, hv⟩ : ArWf a ∧ a.verf = [b0, b1, b2, b3, b4, b5, b6, b7])
  have HK := Lib.hid (show (Rd w u1 a.h ∧ Rd w u2 a.h2 ∧ Rd w u3 a.data) ∧ Rd w v1 a.h ∧ Rd w v2 a.h2 ∧ Rd w v3 a.data from ⟨⟨k1, k2, k3⟩, h1, h2, h3⟩)
  clear hx hy hw h1 h2 h3 k1 k2 k3 hv
  go_enter Tryz.func14, Tryz.ntmps14
  go_upto_region 1 with fail
  refine wp_world (fun wx => OwnL wx w.heap.size l ∧ OwnL wx (w.heap.size + 1) l' ∧ Below w.heap.size w wx) ⟨OwnL.new.alloc, ?_, by (with_reducible (repeat' (first | exact Below.refl _ _ | assumption | apply bl_alloc | apply bl_drewN | apply bl_drew | refine bl_set ?_ ?_ _))) <;> (first | done | (simp; done) | (simp; omega) | omega)⟩ ?_
  · have h := OwnL.new (w := w.alloc (.cells l.toArray 33)) (l := l') (t := 33)
    have e : (w.alloc (.cells l.toArray 33)).heap.size = w.heap.size + 1 := by simp
    rw [e] at h
    exact h
  rintro w1 ⟨oA, oB, hB1⟩
  rw [← hl] at oA
  rw [← hl'] at oB
  have RA := Lib.hid (RowAt.of oA HW.out.2)
  have RB := Lib.hid (RowAt.of oB HW.out.2)
  have HB := Lib.hid hB1
  obtain ⟨⟨k1, k2, k3⟩, h1, h2, h3⟩ := HK.out
  obtain ⟨A1, c1, rfl, _, _, p1, _⟩ := (k1.below hB1).bs
  obtain ⟨A2, c2, rfl, _, _, p2, _⟩ := (k2.below hB1).bs
  obtain ⟨A3, c3, rfl, _, _, p3, _⟩ := (k3.below hB1).bs
  obtain ⟨B1, d1, rfl, _, _, q1, _⟩ := (h1.below hB1).bs
  obtain ⟨B2, d2, rfl, _, _, q2, _⟩ := (h2.below hB1).bs
  obtain ⟨B3, d3, rfl, _, _, q3, _⟩ := (h3.below hB1).bs
  have HP := Lib.hid (show (Bs w1 A1 a.h.length a.h ∧ Bs w1 A2 a.h2.length a.h2 ∧ Bs w1 A3 a.data.length a.data) ∧ Bs w1 B1 a.h.length a.h ∧ Bs w1 B2 a.h2.length a.h2 ∧ Bs w1 B3 a.data.length a.data from ⟨⟨p1, p2, p3⟩, q1, q2, q3⟩)
  have e1 : ∀ wx : World, (Op.equalIn 10000 30 (.agg #[Value.bool a.set.hasMode, .int .u32 a.set.mode, .bool a.set.hasUser, .int .u32 a.set.user, .bool a.set.hasGroup, .int .u32 a.set.group, .bool a.set.hasSize, .int .u64 a.set.size, .int .u32 a.set.readHow, .int .u32 a.set.read.sec, .int .u32 a.set.read.nano, .int .u32 a.set.writeHow, .int .u32 a.set.write.sec, .int .u32 a.set.write.nano]) (.agg #[Value.bool a.set.hasMode, .int .u32 a.set.mode, .bool a.set.hasUser, .int .u32 a.set.user, .bool a.set.hasGroup, .int .u32 a.set.group, .bool a.set.hasSize, .int .u64 a.set.size, .int .u32 a.set.readHow, .int .u32 a.set.read.sec, .int .u32 a.set.read.nano, .int .u32 a.set.writeHow, .int .u32 a.set.write.sec, .int .u32 a.set.write.nano])).run Tryz.prog wx = .ok true wx := by
    obtain ⟨r, hr, h⟩ := eq_set (d := 9997) a.set a.set
    obtain rfl : r = true := hr.2 rfl
    exact h
  have e2 : ∀ wx : World, (Op.equalIn 10000 28 (.agg #[Value.int .u32 a.guard.sec, .int .u32 a.guard.nano]) (.agg #[Value.int .u32 a.guard.sec, .int .u32 a.guard.nano])).run Tryz.prog wx = .ok true wx := by
    obtain ⟨r, hr, h⟩ := eq_time (d := 9998) a.guard a.guard
    obtain rfl : r = true := hr.2 rfl
    exact h
  have e3 : ∀ wx : World, (Op.equalIn 10000 31 (.agg #[Value.int .u8 ((b0 : UInt8).toNat : Int), .int .u8 ((b1 : UInt8).toNat : Int), .int .u8 ((b2 : UInt8).toNat : Int), .int .u8 ((b3 : UInt8).toNat : Int), .int .u8 ((b4 : UInt8).toNat : Int), .int .u8 ((b5 : UInt8).toNat : Int), .int .u8 ((b6 : UInt8).toNat : Int), .int .u8 ((b7 : UInt8).toNat : Int)]) (.agg #[Value.int .u8 ((b0 : UInt8).toNat : Int), .int .u8 ((b1 : UInt8).toNat : Int), .int .u8 ((b2 : UInt8).toNat : Int), .int .u8 ((b3 : UInt8).toNat : Int), .int .u8 ((b4 : UInt8).toNat : Int), .int .u8 ((b5 : UInt8).toNat : Int), .int .u8 ((b6 : UInt8).toNat : Int), .int .u8 ((b7 : UInt8).toNat : Int)])).run Tryz.prog wx = .ok true wx := by
    obtain ⟨r, hr, h⟩ := eq_verf (d := 9998) a.verf a.verf HW.out.1.verf HW.out.1.verf
    obtain rfl : r = true := hr.2 rfl
    rw [HW.out.2] at h
    exact h
  have hg1 : Tryz.prog.eqGuardType Tryz.prog.depth 30 = false := by kernel_rfl
  have hg2 : Tryz.prog.eqGuardType Tryz.prog.depth 28 = false := by kernel_rfl
  have hg3 : Tryz.prog.eqGuardType Tryz.prog.depth 31 = false := by kernel_rfl
  clear oA oB hB1 hl hl' HK k1 k2 k3 h1 h2 h3 p1 p2 p3 q1 q2 q3
  have a0 := RA.out.g0
  have a2 := RA.out.g2
  have a4 := RA.out.g4
  have a5 := RA.out.g5
  have a6 := RA.out.g6
  have a7 := RA.out.g7
  have a8 := RA.out.g8
  have a9 := RA.out.g9
  have a10 := RA.out.g10
  have a11 := RA.out.g11
  have a12 := RA.out.g12
  have a13 := RA.out.g13
  have a14 := RA.out.g14
  have a15 := RA.out.g15
  have a16 := RA.out.g16
  have a17 := RA.out.g17
  have a18 := RA.out.g18
  have a19 := RA.out.g19
  have a20 := RA.out.g20
  have a21 := RA.out.g21
  have a22 := RA.out.g22
  have a23 := RA.out.g23
  have a24 := RA.out.g24
  have a25 := RA.out.g25
  have a26 := RA.out.g26
  have a28 := RA.out.g28
  have a29 := RA.out.g29
  have a30 := RA.out.g30
  have a1 := RA.out.g1
  have a3 := RA.out.g3
  have a27 := RA.out.g27
  have a31 := RA.out.g31
  have a32 := RA.out.g32
  have a33 := RA.out.g33
  have a34 := RA.out.g34
  have a35 := RA.out.g35
  have a36 := RA.out.g36
  have a37 := RA.out.g37
  have a38 := RA.out.g38
  have a39 := RA.out.g39
  have b0 := RB.out.g0
  have b2 := RB.out.g2
  have b4 := RB.out.g4
  have b5 := RB.out.g5
  have b6 := RB.out.g6
  have b7 := RB.out.g7
  have b8 := RB.out.g8
  have b9 := RB.out.g9
  have b10 := RB.out.g10
  have b11 := RB.out.g11
  have b12 := RB.out.g12
  have b13 := RB.out.g13
  have b14 := RB.out.g14
  have b15 := RB.out.g15
  have b16 := RB.out.g16
  have b17 := RB.out.g17
  have b18 := RB.out.g18
  have b19 := RB.out.g19
  have b20 := RB.out.g20
  have b21 := RB.out.g21
  have b22 := RB.out.g22
  have b23 := RB.out.g23
  have b24 := RB.out.g24
  have b25 := RB.out.g25
  have b26 := RB.out.g26
  have b28 := RB.out.g28
  have b29 := RB.out.g29
  have b30 := RB.out.g30
  have b1 := RB.out.g1
  have b3 := RB.out.g3
  have b27 := RB.out.g27
  have b31 := RB.out.g31
  have b32 := RB.out.g32
  have b33 := RB.out.g33
  have b34 := RB.out.g34
  have b35 := RB.out.g35
  have b36 := RB.out.g36
  have b37 := RB.out.g37
  have b38 := RB.out.g38
  have b39 := RB.out.g39
  go_wp2_with (first
    | (go_at_call 15; ((with_reducible refine Calls.mono (Same_any HP.out.1.1 HP.out.2.1) ?_); rw [decide_eq_true rfl]; rintro e wn ⟨rfl, bn⟩; (have RA := Lib.hid (RowAt.of (RA.out.own.trk bn) HW.out.2)); (have RB := Lib.hid (RowAt.of (RB.out.own.trk bn) HW.out.2)); (have HB := Lib.hid (bl_then HB.out bn)); (have HP := Lib.hid (show (Bs wn A1 a.h.length a.h ∧ Bs wn A2 a.h2.length a.h2 ∧ Bs wn A3 a.data.length a.data) ∧ Bs wn B1 a.h.length a.h ∧ Bs wn B2 a.h2.length a.h2 ∧ Bs wn B3 a.data.length a.data from ⟨⟨HP.out.1.1.below bn, HP.out.1.2.1.below bn, HP.out.1.2.2.below bn⟩, HP.out.2.1.below bn, HP.out.2.2.1.below bn, HP.out.2.2.2.below bn⟩)); clear bn; (clear a0 a2 a4 a5 a6 a7 a8 a9 a10 a11 a12 a13 a14 a15 a16 a17 a18 a19 a20 a21 a22 a23 a24 a25 a26 a28 a29 a30 a1 a3 a27 a31 a32 a33 a34 a35 a36 a37 a38 a39 b0 b2 b4 b5 b6 b7 b8 b9 b10 b11 b12 b13 b14 b15 b16 b17 b18 b19 b20 b21 b22 b23 b24 b25 b26 b28 b29 b30 b1 b3 b27 b31 b32 b33 b34 b35 b36 b37 b38 b39); (have a0 := RA.out.g0); (have a2 := RA.out.g2); (have a4 := RA.out.g4); (have a5 := RA.out.g5); (have a6 := RA.out.g6); (have a7 := RA.out.g7); (have a8 := RA.out.g8); (have a9 := RA.out.g9); (have a10 := RA.out.g10); (have a11 := RA.out.g11); (have a12 := RA.out.g12); (have a13 := RA.out.g13); (have a14 := RA.out.g14); (have a15 := RA.out.g15); (have a16 := RA.out.g16); (have a17 := RA.out.g17); (have a18 := RA.out.g18); (have a19 := RA.out.g19); (have a20 := RA.out.g20); (have a21 := RA.out.g21); (have a22 := RA.out.g22); (have a23 := RA.out.g23); (have a24 := RA.out.g24); (have a25 := RA.out.g25); (have a26 := RA.out.g26); (have a28 := RA.out.g28); (have a29 := RA.out.g29); (have a30 := RA.out.g30); (have a1 := RA.out.g1); (have a3 := RA.out.g3); (have a27 := RA.out.g27); (have a31 := RA.out.g31); (have a32 := RA.out.g32); (have a33 := RA.out.g33); (have a34 := RA.out.g34); (have a35 := RA.out.g35); (have a36 := RA.out.g36); (have a37 := RA.out.g37); (have a38 := RA.out.g38); (have a39 := RA.out.g39); (have b0 := RB.out.g0); (have b2 := RB.out.g2); (have b4 := RB.out.g4); (have b5 := RB.out.g5); (have b6 := RB.out.g6); (have b7 := RB.out.g7); (have b8 := RB.out.g8); (have b9 := RB.out.g9); (have b10 := RB.out.g10); (have b11 := RB.out.g11); (have b12 := RB.out.g12); (have b13 := RB.out.g13); (have b14 := RB.out.g14); (have b15 := RB.out.g15); (have b16 := RB.out.g16); (have b17 := RB.out.g17); (have b18 := RB.out.g18); (have b19 := RB.out.g19); (have b20 := RB.out.g20); (have b21 := RB.out.g21); (have b22 := RB.out.g22); (have b23 := RB.out.g23); (have b24 := RB.out.g24); (have b25 := RB.out.g25); (have b26 := RB.out.g26); (have b28 := RB.out.g28); (have b29 := RB.out.g29); (have b30 := RB.out.g30); (have b1 := RB.out.g1); (have b3 := RB.out.g3); (have b27 := RB.out.g27); (have b31 := RB.out.g31); (have b32 := RB.out.g32); (have b33 := RB.out.g33); (have b34 := RB.out.g34); (have b35 := RB.out.g35); (have b36 := RB.out.g36); (have b37 := RB.out.g37); (have b38 := RB.out.g38); (have b39 := RB.out.g39); skip))
    | (go_at_call 15; ((with_reducible refine Calls.mono (Same_any HP.out.1.2.1 HP.out.2.2.1) ?_); rw [decide_eq_true rfl]; rintro e wn ⟨rfl, bn⟩; (have RA := Lib.hid (RowAt.of (RA.out.own.trk bn) HW.out.2)); (have RB := Lib.hid (RowAt.of (RB.out.own.trk bn) HW.out.2)); (have HB := Lib.hid (bl_then HB.out bn)); (have HP := Lib.hid (show (Bs wn A1 a.h.length a.h ∧ Bs wn A2 a.h2.length a.h2 ∧ Bs wn A3 a.data.length a.data) ∧ Bs wn B1 a.h.length a.h ∧ Bs wn B2 a.h2.length a.h2 ∧ Bs wn B3 a.data.length a.data from ⟨⟨HP.out.1.1.below bn, HP.out.1.2.1.below bn, HP.out.1.2.2.below bn⟩, HP.out.2.1.below bn, HP.out.2.2.1.below bn, HP.out.2.2.2.below bn⟩)); clear bn; (clear a0 a2 a4 a5 a6 a7 a8 a9 a10 a11 a12 a13 a14 a15 a16 a17 a18 a19 a20 a21 a22 a23 a24 a25 a26 a28 a29 a30 a1 a3 a27 a31 a32 a33 a34 a35 a36 a37 a38 a39 b0 b2 b4 b5 b6 b7 b8 b9 b10 b11 b12 b13 b14 b15 b16 b17 b18 b19 b20 b21 b22 b23 b24 b25 b26 b28 b29 b30 b1 b3 b27 b31 b32 b33 b34 b35 b36 b37 b38 b39); (have a0 := RA.out.g0); (have a2 := RA.out.g2); (have a4 := RA.out.g4); (have a5 := RA.out.g5); (have a6 := RA.out.g6); (have a7 := RA.out.g7); (have a8 := RA.out.g8); (have a9 := RA.out.g9); (have a10 := RA.out.g10); (have a11 := RA.out.g11); (have a12 := RA.out.g12); (have a13 := RA.out.g13); (have a14 := RA.out.g14); (have a15 := RA.out.g15); (have a16 := RA.out.g16); (have a17 := RA.out.g17); (have a18 := RA.out.g18); (have a19 := RA.out.g19); (have a20 := RA.out.g20); (have a21 := RA.out.g21); (have a22 := RA.out.g22); (have a23 := RA.out.g23); (have a24 := RA.out.g24); (have a25 := RA.out.g25); (have a26 := RA.out.g26); (have a28 := RA.out.g28); (have a29 := RA.out.g29); (have a30 := RA.out.g30); (have a1 := RA.out.g1); (have a3 := RA.out.g3); (have a27 := RA.out.g27); (have a31 := RA.out.g31); (have a32 := RA.out.g32); (have a33 := RA.out.g33); (have a34 := RA.out.g34); (have a35 := RA.out.g35); (have a36 := RA.out.g36); (have a37 := RA.out.g37); (have a38 := RA.out.g38); (have a39 := RA.out.g39); (have b0 := RB.out.g0); (have b2 := RB.out.g2); (have b4 := RB.out.g4); (have b5 := RB.out.g5); (have b6 := RB.out.g6); (have b7 := RB.out.g7); (have b8 := RB.out.g8); (have b9 := RB.out.g9); (have b10 := RB.out.g10); (have b11 := RB.out.g11); (have b12 := RB.out.g12); (have b13 := RB.out.g13); (have b14 := RB.out.g14); (have b15 := RB.out.g15); (have b16 := RB.out.g16); (have b17 := RB.out.g17); (have b18 := RB.out.g18); (have b19 := RB.out.g19); (have b20 := RB.out.g20); (have b21 := RB.out.g21); (have b22 := RB.out.g22); (have b23 := RB.out.g23); (have b24 := RB.out.g24); (have b25 := RB.out.g25); (have b26 := RB.out.g26); (have b28 := RB.out.g28); (have b29 := RB.out.g29); (have b30 := RB.out.g30); (have b1 := RB.out.g1); (have b3 := RB.out.g3); (have b27 := RB.out.g27); (have b31 := RB.out.g31); (have b32 := RB.out.g32); (have b33 := RB.out.g33); (have b34 := RB.out.g34); (have b35 := RB.out.g35); (have b36 := RB.out.g36); (have b37 := RB.out.g37); (have b38 := RB.out.g38); (have b39 := RB.out.g39); skip))
    | (go_at_call 15; ((with_reducible refine Calls.mono (Same_any HP.out.1.2.2 HP.out.2.2.2) ?_); rw [decide_eq_true rfl]; rintro e wn ⟨rfl, bn⟩; (have RA := Lib.hid (RowAt.of (RA.out.own.trk bn) HW.out.2)); (have RB := Lib.hid (RowAt.of (RB.out.own.trk bn) HW.out.2)); (have HB := Lib.hid (bl_then HB.out bn)); (have HP := Lib.hid (show (Bs wn A1 a.h.length a.h ∧ Bs wn A2 a.h2.length a.h2 ∧ Bs wn A3 a.data.length a.data) ∧ Bs wn B1 a.h.length a.h ∧ Bs wn B2 a.h2.length a.h2 ∧ Bs wn B3 a.data.length a.data from ⟨⟨HP.out.1.1.below bn, HP.out.1.2.1.below bn, HP.out.1.2.2.below bn⟩, HP.out.2.1.below bn, HP.out.2.2.1.below bn, HP.out.2.2.2.below bn⟩)); clear bn; (clear a0 a2 a4 a5 a6 a7 a8 a9 a10 a11 a12 a13 a14 a15 a16 a17 a18 a19 a20 a21 a22 a23 a24 a25 a26 a28 a29 a30 a1 a3 a27 a31 a32 a33 a34 a35 a36 a37 a38 a39 b0 b2 b4 b5 b6 b7 b8 b9 b10 b11 b12 b13 b14 b15 b16 b17 b18 b19 b20 b21 b22 b23 b24 b25 b26 b28 b29 b30 b1 b3 b27 b31 b32 b33 b34 b35 b36 b37 b38 b39); (have a0 := RA.out.g0); (have a2 := RA.out.g2); (have a4 := RA.out.g4); (have a5 := RA.out.g5); (have a6 := RA.out.g6); (have a7 := RA.out.g7); (have a8 := RA.out.g8); (have a9 := RA.out.g9); (have a10 := RA.out.g10); (have a11 := RA.out.g11); (have a12 := RA.out.g12); (have a13 := RA.out.g13); (have a14 := RA.out.g14); (have a15 := RA.out.g15); (have a16 := RA.out.g16); (have a17 := RA.out.g17); (have a18 := RA.out.g18); (have a19 := RA.out.g19); (have a20 := RA.out.g20); (have a21 := RA.out.g21); (have a22 := RA.out.g22); (have a23 := RA.out.g23); (have a24 := RA.out.g24); (have a25 := RA.out.g25); (have a26 := RA.out.g26); (have a28 := RA.out.g28); (have a29 := RA.out.g29); (have a30 := RA.out.g30); (have a1 := RA.out.g1); (have a3 := RA.out.g3); (have a27 := RA.out.g27); (have a31 := RA.out.g31); (have a32 := RA.out.g32); (have a33 := RA.out.g33); (have a34 := RA.out.g34); (have a35 := RA.out.g35); (have a36 := RA.out.g36); (have a37 := RA.out.g37); (have a38 := RA.out.g38); (have a39 := RA.out.g39); (have b0 := RB.out.g0); (have b2 := RB.out.g2); (have b4 := RB.out.g4); (have b5 := RB.out.g5); (have b6 := RB.out.g6); (have b7 := RB.out.g7); (have b8 := RB.out.g8); (have b9 := RB.out.g9); (have b10 := RB.out.g10); (have b11 := RB.out.g11); (have b12 := RB.out.g12); (have b13 := RB.out.g13); (have b14 := RB.out.g14); (have b15 := RB.out.g15); (have b16 := RB.out.g16); (have b17 := RB.out.g17); (have b18 := RB.out.g18); (have b19 := RB.out.g19); (have b20 := RB.out.g20); (have b21 := RB.out.g21); (have b22 := RB.out.g22); (have b23 := RB.out.g23); (have b24 := RB.out.g24); (have b25 := RB.out.g25); (have b26 := RB.out.g26); (have b28 := RB.out.g28); (have b29 := RB.out.g29); (have b30 := RB.out.g30); (have b1 := RB.out.g1); (have b3 := RB.out.g3); (have b27 := RB.out.g27); (have b31 := RB.out.g31); (have b32 := RB.out.g32); (have b33 := RB.out.g33); (have b34 := RB.out.g34); (have b35 := RB.out.g35); (have b36 := RB.out.g36); (have b37 := RB.out.g37); (have b38 := RB.out.g38); (have b39 := RB.out.g39); skip)))
  go_ret
  exact ⟨rfl, HB.out⟩
end
end Go.Proofs.YtgmhapjidbdhnaaGreat

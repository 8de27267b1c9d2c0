/- ArgsOdd: the law's walk. -/
import Derived.Test.YtgmhapjidbdhnaaGreatArAlive
import Derived.Test.YtgmhapjidbdhnaaGreatArOddP
set_option linter.unusedVariables false
set_option linter.unusedSimpArgs false
namespace Go.Proofs.YtgmhapjidbdhnaaGreat
open Go.RowKit
section
variable {w : World}
theorem Put_flag {a : Ar} {c : Bool} (hw : ArWf a) (e1 : a.h = []) (e2 : a.h2 = []) (e3 : a.data = []) (hc : okA (putA a) = c) : Calls Tryz.prog 12 #[.agg (arC nilS nilS nilS a).toArray] w fun e w' => ∃ (v : Value) (er : Int), e = .returned (.tuple #[v, .int .i64 er]) ∧ er = (if c = true then 0 else 1) ∧ Below w.heap.size w w' := by
  refine Calls.mono (Put_walk hw (by rw [e1]; exact rd_nil w) (by rw [e2]; exact rd_nil w) (by rw [e3]; exact rd_nil w)) fun e w' h => ?_
  rcases hp : putA a with er | bs
  · obtain ⟨e1, hb⟩ := h.fails hp
    rw [hp] at hc
    obtain rfl : false = c := hc
    rw [putA_err hp] at e1
    exact ⟨_, _, e1, rfl, hb⟩
  · obtain ⟨v, e1, _, hb⟩ := h.okay hp
    rw [hp] at hc
    obtain rfl : true = c := hc
    exact ⟨_, _, e1, rfl, hb⟩
theorem OwnL.seta {w : World} {b : Nat} {l l' : List Value} (h : OwnL w b l) (i : Nat) (v : Value) (hi : i < l.length) (he : l.set i v = l') : OwnL (w.setCell ⟨b, i, none⟩ v) b l' := he ▸ h.set_ hi
set_option maxRecDepth 100000 in
set_option maxHeartbeats 4000000 in
theorem LArgsOdd {p n : Nat} (hp : p < 4294967296) (hn : n < 4294967296) : Calls Tryz.prog 8 #[.int .u32 (p : Int), .int .u32 (n : Int)] w fun e w' => e = .returned (.bool true) ∧ Below w.heap.size w w' := by
  by_cases hz : n = 0
  · subst hz
    go_enter Tryz.func8, Tryz.ntmps8
    go_wp2_with (go_at_call 10; (refine Calls.mono alive_any ?_); rintro e w1 ⟨rfl, b1⟩; (have HB1 := Lib.hid b1); clear b1)
    go_ret
    exact ⟨rfl, HB1.out⟩
  · have hz' : ¬ ((n : Int) = 0) := by omega
    have hzb : ((n : Int) == 0) = false := beq_eq_false_iff_ne.2 hz'
    have HP := Lib.hid hp
    have HN := Lib.hid hn
    have HZ := Lib.hid hz
    clear hn hz
    go_enter Tryz.func8, Tryz.ntmps8
    go_upto_region 4 with (refine wpList_store_new rfl 33 _ _ rfl (arC nilS nilS nilS (Ar.zero p)) rfl rfl (by kernel_rfl) (by kernel_rfl) (arC_one rfl rfl rfl) ?_; intro w2 b2 oA; (have HB2 := Lib.hid b2); clear b2)
    generalize Value.agg _ = g11
    clear hz' hzb
    rcases Nat.lt_or_ge 21 p with hlt | hle
    · have hd : (p : Int) > 21 := by omega
      have hF : putA (Ar.zero p) = .error 1 := odd_none p hlt
      have hP0 := Lib.hid fun (w : World) => Calls.mono (Put_walk (w := w) (ArWf.zero HP.out) (rd_nil w) (rd_nil w) (rd_nil w)) fun e w' h => h.fails hF
      clear hF hlt
      go_wp2_with (first
        | (refine wpList_load_mid rfl 33 _ rfl w.heap.size 0 rfl (arC nilS nilS nilS (Ar.zero p)) _ oA.range Tryz.underlying33 rfl (by kernel_rfl) ?_)
        | (go_at_call 12; (refine Calls.mono (hP0.out _) ?_); rintro e w4 ⟨rfl, b4⟩; (have HB4 := Lib.hid (bl_then HB2.out b4)); clear b4)
        | (go_at_call 10; (refine Calls.mono alive_any ?_); rintro e w5 ⟨rfl, b5⟩; (have HB5 := Lib.hid (bl_then HB4.out b5)); clear b5))
      go_ret
      exact ⟨rfl, HB5.out⟩
    · have hd : ¬ (p : Int) > 21 := by omega
      have hlt : p < 22 := by omega
      have HPut0 := Lib.hid fun (w : World) => Put_flag (w := w) (a := Ar.zero p) (ArWf.zero HP.out) rfl rfl rfl (odd_zero p hlt)
      have HPut1 := Lib.hid fun (w : World) => Put_flag (w := w) (a := {Ar.zero p with bits := n}) ⟨HP.out, z0, z1, HN.out, z2, z3, z3, z3, z3, z3, rfl, z2⟩ rfl rfl rfl (odd_bits p n hlt HZ.out HN.out)
      have HPut2 := Lib.hid fun (w : World) => Put_flag (w := w) (a := {Ar.zero p with max := n}) ⟨HP.out, z0, z1, z3, z2, z3, HN.out, z3, z3, z3, rfl, z2⟩ rfl rfl rfl (odd_max p n hlt HZ.out HN.out)
      have HPut3 := Lib.hid fun (w : World) => Put_flag (w := w) (a := {Ar.zero p with target := [116]}) ⟨HP.out, z0, z1, z3, z2, z3, z3, z3, z3, z3, rfl, z2⟩ rfl rfl rfl (odd_target p hlt)
      have HPut4 := Lib.hid fun (w : World) => Put_flag (w := w) (a := {Ar.zero p with cookie := n}) ⟨HP.out, z0, z1, z3, z2, z3, z3, z3, z3, z3, rfl, Nat.lt_trans HN.out (by decide)⟩ rfl rfl rfl (odd_cookie p n hlt HZ.out HN.out)
      go_upto_region 5 with (first
        | (refine wpList_load_mid rfl 33 _ rfl w.heap.size 0 rfl (arC nilS nilS nilS (Ar.zero p)) _ oA.range Tryz.underlying33 rfl (by kernel_rfl) ?_)
        | (go_at_call 12; (refine Calls.mono (HPut0.out _) ?_); rintro e w3 ⟨v0, e0, rfl, h0, b3⟩; (have HE0 := Lib.hid h0); clear h0; (have HB3 := Lib.hid (bl_then HB2.out b3)); (have oA3 := oA.trk b3); clear b3))
      obtain rfl : e0 = 0 := HE0.out
      clear HE0 HPut0 HB2 oA
      generalize Value.agg _ = g12
      have HB := HB3
      clear HB3
      have hK : w.heap.size < w3.heap.size := oA3.1
      clear hd
      have c22 : w3.cell? ⟨w.heap.size, 22, none⟩ = some (.int .u32 0) := oA3.2.1 22
      have f22 : w3.frozen? ⟨w.heap.size, 22, none⟩ = false := oA3.2.2 22
      go_upto_region 8 with fail
      clear c22 f22
      have oB := oA3.seta 22 (.int .u32 (n : Int)) (show 22 < 40 by decide) (show _ = arC nilS nilS nilS {Ar.zero p with bits := n} from rfl)
      have HB := Lib.hid (bl_set HB.out (p := ⟨w.heap.size, 22, none⟩) (Nat.le_refl _) (.int .u32 (n : Int)))
      go_upto_region 9 with (first
        | (refine wpList_load_mid rfl 33 _ rfl w.heap.size 0 rfl (arC nilS nilS nilS {Ar.zero p with bits := n}) _ oB.range Tryz.underlying33 rfl (by kernel_rfl) ?_)
        | (go_at_call 12; (refine Calls.mono (HPut1.out _) ?_); rintro e w4 ⟨v1, e1, rfl, h1, b4⟩; (have HE1 := Lib.hid h1); clear h1; (have HB := Lib.hid (bl_then HB.out b4)); (have oT4 := oB.trk b4); clear b4))
      clear oB HPut1
      generalize Value.agg _ = g20
      have c22 : w4.cell? ⟨w.heap.size, 22, none⟩ = some (.int .u32 (n : Int)) := oT4.2.1 22
      have f22 : w4.frozen? ⟨w.heap.size, 22, none⟩ = false := oT4.2.2 22
      have c25 : w4.cell? ⟨w.heap.size, 25, none⟩ = some (.int .u32 0) := oT4.2.1 25
      have f25 : w4.frozen? ⟨w.heap.size, 25, none⟩ = false := oT4.2.2 25
      go_upto_region 10 with fail
      have oA4 := oT4.seta 22 (.int .u32 0) (show 22 < 40 by decide) (show _ = arC nilS nilS nilS (Ar.zero p) from rfl)
      have HB := Lib.hid (bl_set HB.out (p := ⟨w.heap.size, 22, none⟩) (Nat.le_refl _) (.int .u32 0))
      clear oT4
      go_upto_region 11 with fail
      clear c22 f22 c25 f25
      have oB := oA4.seta 25 (.int .u32 (n : Int)) (show 25 < 40 by decide) (show _ = arC nilS nilS nilS {Ar.zero p with max := n} from rfl)
      have HB := Lib.hid (bl_set HB.out (p := ⟨w.heap.size, 25, none⟩) (Nat.le_refl _) (.int .u32 (n : Int)))
      go_upto_region 12 with (first
        | (refine wpList_load_mid rfl 33 _ rfl w.heap.size 0 rfl (arC nilS nilS nilS {Ar.zero p with max := n}) _ oB.range Tryz.underlying33 rfl (by kernel_rfl) ?_)
        | (go_at_call 12; (refine Calls.mono (HPut2.out _) ?_); rintro e w5 ⟨v2, e2, rfl, h2, b5⟩; (have HE2 := Lib.hid h2); clear h2; (have HB := Lib.hid (bl_then HB.out b5)); (have oT5 := oB.trk b5); clear b5))
      clear oB HPut2
      generalize Value.agg _ = g21
      have c25 : w5.cell? ⟨w.heap.size, 25, none⟩ = some (.int .u32 (n : Int)) := oT5.2.1 25
      have f25 : w5.frozen? ⟨w.heap.size, 25, none⟩ = false := oT5.2.2 25
      have c28 : w5.cell? ⟨w.heap.size, 28, none⟩ = some (.string ⟨#[]⟩) := oT5.2.1 28
      have f28 : w5.frozen? ⟨w.heap.size, 28, none⟩ = false := oT5.2.2 28
      go_upto_region 13 with fail
      have oA5 := oT5.seta 25 (.int .u32 0) (show 25 < 40 by decide) (show _ = arC nilS nilS nilS (Ar.zero p) from rfl)
      have HB := Lib.hid (bl_set HB.out (p := ⟨w.heap.size, 25, none⟩) (Nat.le_refl _) (.int .u32 0))
      clear oT5
      go_upto_region 14 with fail
      clear c25 f25 c28 f28
      have oB := oA5.seta 28 (.string ⟨#[116]⟩) (show 28 < 40 by decide) (show _ = arC nilS nilS nilS {Ar.zero p with target := [116]} from rfl)
      have HB := Lib.hid (bl_set HB.out (p := ⟨w.heap.size, 28, none⟩) (Nat.le_refl _) (.string ⟨#[116]⟩))
      go_upto_region 15 with (first
        | (refine wpList_load_mid rfl 33 _ rfl w.heap.size 0 rfl (arC nilS nilS nilS {Ar.zero p with target := [116]}) _ oB.range Tryz.underlying33 rfl (by kernel_rfl) ?_)
        | (go_at_call 12; (refine Calls.mono (HPut3.out _) ?_); rintro e w6 ⟨v3, e3, rfl, h3, b6⟩; (have HE3 := Lib.hid h3); clear h3; (have HB := Lib.hid (bl_then HB.out b6)); (have oT6 := oB.trk b6); clear b6))
      clear oB HPut3
      generalize Value.agg _ = g22
      have c28 : w6.cell? ⟨w.heap.size, 28, none⟩ = some (.string ⟨#[116]⟩) := oT6.2.1 28
      have f28 : w6.frozen? ⟨w.heap.size, 28, none⟩ = false := oT6.2.2 28
      have c39 : w6.cell? ⟨w.heap.size, 39, none⟩ = some (.int .u64 0) := oT6.2.1 39
      have f39 : w6.frozen? ⟨w.heap.size, 39, none⟩ = false := oT6.2.2 39
      have hwr : IntKind.u64.wrap (n : Int) = n := wraps_u64' _ (by omega) (by have := HN.out; omega)
      go_upto_region 16 with fail
      have oA6 := oT6.seta 28 (.string ⟨#[]⟩) (show 28 < 40 by decide) (show _ = arC nilS nilS nilS (Ar.zero p) from rfl)
      have HB := Lib.hid (bl_set HB.out (p := ⟨w.heap.size, 28, none⟩) (Nat.le_refl _) (.string ⟨#[]⟩))
      clear oT6
      go_upto_region 17 with fail
      clear c28 f28 c39 f39
      have oB := oA6.seta 39 (.int .u64 (n : Int)) (show 39 < 40 by decide) (show _ = arC nilS nilS nilS {Ar.zero p with cookie := n} from rfl)
      have HB := Lib.hid (bl_set HB.out (p := ⟨w.heap.size, 39, none⟩) (Nat.le_refl _) (.int .u64 (n : Int)))
      go_upto_region 18 with (first
        | (refine wpList_load_mid rfl 33 _ rfl w.heap.size 0 rfl (arC nilS nilS nilS {Ar.zero p with cookie := n}) _ oB.range Tryz.underlying33 rfl (by kernel_rfl) ?_)
        | (go_at_call 12; (refine Calls.mono (HPut4.out _) ?_); rintro e w7 ⟨v4, e4, rfl, h4, b7⟩; (have HE4 := Lib.hid h4); clear h4; (have HB := Lib.hid (bl_then HB.out b7)); clear b7))
      clear oB HPut4
      generalize Value.agg _ = g23
      clear hwr hK
      have alive := Lib.hid fun (w : World) => alive_any (w := w)
      by_cases q1 : p = 4
      · subst q1
        obtain rfl : e1 = 0 := HE1.out
        obtain rfl : e2 = 1 := HE2.out
        obtain rfl : e3 = 1 := HE3.out
        obtain rfl : e4 = 1 := HE4.out
        go_wp2_with (go_at_call 10; (refine Calls.mono (alive.out _) ?_); rintro e w9 ⟨rfl, b9⟩; (have HB := Lib.hid (bl_then HB.out b9)); clear b9)
        go_ret
        exact ⟨rfl, HB.out⟩
      by_cases q2 : p = 17
      · subst q2
        obtain rfl : e1 = 1 := HE1.out
        obtain rfl : e2 = 0 := HE2.out
        obtain rfl : e3 = 1 := HE3.out
        obtain rfl : e4 = 0 := HE4.out
        go_wp2_with (go_at_call 10; (refine Calls.mono (alive.out _) ?_); rintro e w9 ⟨rfl, b9⟩; (have HB := Lib.hid (bl_then HB.out b9)); clear b9)
        go_ret
        exact ⟨rfl, HB.out⟩
      by_cases q3 : p = 10
      · subst q3
        obtain rfl : e1 = 1 := HE1.out
        obtain rfl : e2 = 1 := HE2.out
        obtain rfl : e3 = 0 := HE3.out
        obtain rfl : e4 = 1 := HE4.out
        go_wp2_with (go_at_call 10; (refine Calls.mono (alive.out _) ?_); rintro e w9 ⟨rfl, b9⟩; (have HB := Lib.hid (bl_then HB.out b9)); clear b9)
        go_ret
        exact ⟨rfl, HB.out⟩
      by_cases q4 : p = 16
      · subst q4
        obtain rfl : e1 = 1 := HE1.out
        obtain rfl : e2 = 1 := HE2.out
        obtain rfl : e3 = 1 := HE3.out
        obtain rfl : e4 = 0 := HE4.out
        go_wp2_with (go_at_call 10; (refine Calls.mono (alive.out _) ?_); rintro e w9 ⟨rfl, b9⟩; (have HB := Lib.hid (bl_then HB.out b9)); clear b9)
        go_ret
        exact ⟨rfl, HB.out⟩
      obtain rfl : e1 = 1 := by have := HE1.out; rwa [decide_eq_false q1] at this
      obtain rfl : e2 = 1 := by have := HE2.out; rwa [decide_eq_false q2] at this
      obtain rfl : e3 = 1 := by have := HE3.out; rwa [decide_eq_false q3] at this
      obtain rfl : e4 = 1 := by have := HE4.out; rwa [decide_eq_false q4, decide_eq_false q2] at this
      have r1 : ((p : Int) == 4) = false := beq_eq_false_iff_ne.2 (by omega)
      have r2 : ((p : Int) == 17) = false := beq_eq_false_iff_ne.2 (by omega)
      have r3 : ((p : Int) == 10) = false := beq_eq_false_iff_ne.2 (by omega)
      have r4 : ((p : Int) == 16) = false := beq_eq_false_iff_ne.2 (by omega)
      go_wp2_with (go_at_call 10; (refine Calls.mono (alive.out _) ?_); rintro e w9 ⟨rfl, b9⟩; (have HB := Lib.hid (bl_then HB.out b9)); clear b9)
      go_ret
      exact ⟨rfl, HB.out⟩
end
end Go.Proofs.YtgmhapjidbdhnaaGreat

/- ArgsAgain: the law's walk. -/
import Derived.Test.YtgmhapjidbdhnaaGreatArAlive
set_option linter.unusedVariables false
set_option linter.unusedSimpArgs false
namespace Go.Proofs.YtgmhapjidbdhnaaGreat
open Go.RowKit
section
variable {w : World}
set_option maxRecDepth 100000 in
set_option maxHeartbeats 4000000 in
theorem LArgsAgain {p : Nat} (hp : p < 4294967296) {A : Option Addr} {n c : Nat} {xs : List UInt8} (hv : Rd w (.slice A n c) xs) (hn : xs.length = n) : Calls Tryz.prog 4 #[.int .u32 (p : Int), .slice A n c] w fun e w' => e = .returned (.bool true) ∧ Below w.heap.size w w' := by
  have HV := Lib.hid hv
  clear hv
  rcases Nat.lt_or_ge 100000 n with hbig | hle
  · have HN := Lib.hid hn
    have hb : (n : Int) > 100000 := by omega
    clear hn hbig
    go_enter Tryz.func4, Tryz.ntmps4
    go_upto_region 2 with (go_at_call 10; (refine Calls.mono alive_any ?_); rintro e w1 ⟨rfl, b1⟩; (have HB1 := Lib.hid b1); clear b1)
    go_wp2_with (go_at_call 10; (refine Calls.mono alive_any ?_); rintro e w2 ⟨rfl, b2⟩; (have HB2 := Lib.hid (bl_then HB1.out b2)); clear b2)
    go_ret
    exact ⟨rfl, HB2.out⟩
  · have hb : ¬ (n : Int) > 100000 := by omega
    go_enter Tryz.func4, Tryz.ntmps4
    go_upto_region 3 with (go_at_call 10; (refine Calls.mono alive_any ?_); rintro e w1 ⟨rfl, b1⟩; (have HB1 := Lib.hid b1); clear b1)
    go_upto_region 4 with (first
      | (go_at_call 13; (refine Calls.mono (Get_any hp (HV.out.below HB1.out) (by omega)) ?_); rintro e w2 hg; (obtain ⟨cs, er, rfl, HG, hcl, hone, hb2⟩ := got_cs hg (Nat.le_refl _)); (have HB2 := Lib.hid (bl_then HB1.out hb2)); clear hb2 hg)
      | (refine wpList_store_new rfl 33 _ _ rfl cs rfl rfl (hcl.trans rfl) (by rw [hcl]; kernel_rfl) hone ?_; intro w3 b3 oA; (have HB3 := Lib.hid b3); clear b3))
    have HN := Lib.hid hn
    clear hn
    have hB3 := bl_then HB2.out HB3.out
    rcases HG.out with ⟨x, u1, u2, u3, hget, hout, rfl, rfl⟩ | ⟨hget, hne, rfl⟩
    · obtain ⟨hxp, hput⟩ := get_again hget
      have g0 : w3.cell? ⟨w2.heap.size, 0, none⟩ = some (.int .u32 x.proc) := oA.2.1 0
      rw [hxp] at g0
      have HO := Lib.hid (show ArWf x ∧ Rd w3 u1 x.h ∧ Rd w3 u2 x.h2 ∧ Rd w3 u3 x.data from ⟨hout.wf, hout.h1.below HB3.out, hout.h2.below HB3.out, hout.h3.below HB3.out⟩)
      have HPut := Lib.hid hput
      have HB4 := Lib.hid hB3
      have HCl := Lib.hid hcl
      have hlt := oA.1
      clear hget hout hput hxp hcl hone HG HB1 HB2 HB3 hB3
      go_upto_region 7 with (first
        | (refine wpList_load_mid rfl 33 _ rfl w2.heap.size 0 rfl (arC u1 u2 u3 x) _ oA.range Tryz.underlying33 rfl (by rw [HCl.out]; kernel_rfl) ?_)
        | (go_at_call 12; (refine Calls.mono (Put_walk HO.out.1 HO.out.2.1 HO.out.2.2.1 HO.out.2.2.2) ?_); rintro e w4 hp4; (obtain ⟨v4, rfl, o4, b4⟩ := hp4.okay HPut.out); (obtain ⟨A4, c4, rfl, _, _, x4⟩ := o4.reads); (have HX4 := Lib.hid x4); (have HB5 := Lib.hid (bl_then HB4.out b4)); (have g4 : w4.cell? ⟨w2.heap.size, 0, none⟩ = some (.int .u32 p) := ((bcell b4).1 _ 0 hlt).trans g0); (have hlt4 := Nat.lt_of_lt_of_le hlt b4.size); clear hp4 o4 b4 x4 g0))
      obtain ⟨A0, c0, e0, _, _, x0, _⟩ := (HV.out.below HB5.out).bs
      rw [HN.out] at e0 x0
      injection e0 with e0 _ _
      subst e0
      go_wp2_with (go_at_call 15; (refine Calls.mono (Same_any HX4.out x0) ?_); rintro e w5 ⟨rfl, b5⟩; (have HB6 := Lib.hid (bl_then HB5.out b5)); (have g5 : w5.cell? ⟨w2.heap.size, 0, none⟩ = some (.int .u32 p) := ((bcell b5).1 _ 0 hlt4).trans g4); (have hlt5 := Nat.lt_of_lt_of_le hlt4 b5.size); clear b5 g4)
      go_ret
      exact ⟨by simp, HB6.out⟩
    · obtain ⟨h1, _⟩ := getA_err hget
      have g0 : w3.cell? ⟨w2.heap.size, 0, none⟩ = some (.int .u32 0) := oA.2.1 0
      have g1 : w3.cell? ⟨w2.heap.size, 1, none⟩ = some (.slice none 0 0) := oA.2.1 1
      have g2 : w3.cell? ⟨w2.heap.size, 2, none⟩ = some (.string ⟨#[]⟩) := oA.2.1 2
      have hlt := oA.1
      have hb0 : (er == 0) = false := beq_eq_false_iff_ne.2 hne
      clear hget hne HG HB1 HB2 HB3 hcl hone
      by_cases he : er = 1
      · subst he
        have hpp : (p : Int) > 21 := by have := h1.1 rfl; omega
        clear h1
        go_wp2
        go_ret
        exact ⟨rfl, hB3⟩
      · have hpp : ¬ (p : Int) > 21 := fun h => he (h1.2 (by omega))
        have hb1 : (er == 1) = false := beq_eq_false_iff_ne.2 he
        clear h1 he
        go_wp2
        go_ret
        exact ⟨rfl, hB3⟩
end
end Go.Proofs.YtgmhapjidbdhnaaGreat

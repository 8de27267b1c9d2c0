/- ArgsOffset: the law's walk. -/
import Derived.Test.YtgmhapjidbdhnaaGreatArLawsKit
set_option linter.unusedVariables false
set_option linter.unusedSimpArgs false
namespace Go.Proofs.YtgmhapjidbdhnaaGreat
open Go.RowKit
def handleB : List UInt8 := [104, 97, 110, 100, 108, 101]
section
variable {w : World}
set_option maxRecDepth 100000 in
set_option maxHeartbeats 4000000 in
theorem LArgsOffset {o q : Nat} (ho : o < 18446744073709551616) (hq : q < 4294967296) {A : Option Addr} {n c : Nat} {xs : List UInt8} (hv : Rd w (.slice A n c) xs) (hn : xs.length = n) (b1 : n ≤ 9223372036854775807) : Calls Tryz.prog 6 #[.int .u64 (o : Int), .int .u32 (q : Int), .slice A n c] w fun e w' => e = .returned (.bool true) ∧ Below w.heap.size w w' := by
  have HV := Lib.hid hv
  have HO := Lib.hid (⟨ho, hq⟩ : o < 18446744073709551616 ∧ q < 4294967296)
  clear hv ho hq
  by_cases hbig : 1048576 < n
  · have HN := Lib.hid hn
    have hd := Lib.hid (decide_eq_true hbig)
    clear hn hbig
    go_enter Tryz.func6, Tryz.ntmps6
    go_wp2_with (first
      | (go_at_call 10; (refine Calls.mono alive_any ?_); rintro e w1 ⟨rfl, b1⟩; (have hB : Below w.heap.size w _ := bl_then (by (with_reducible (repeat' (first | exact Below.refl _ _ | assumption | apply bl_alloc | apply bl_drewN | apply bl_drew | refine bl_set ?_ ?_ _))) <;> (first | done | (simp; done) | (simp; omega) | omega)) b1); clear b1)
      | (go_at_call 16; refine Calls.mono (Beyond_one _ n b1 (by simp [go_sem])) ?_; rw [hd.out]; rintro e w2 ⟨rfl, rfl⟩))
    go_ret
    exact ⟨rfl, by (with_reducible (repeat' (first | exact Below.refl _ _ | assumption | apply bl_alloc | apply bl_drewN | apply bl_drew | refine bl_set ?_ ?_ _))) <;> (first | done | (simp; done) | (simp; omega) | omega)⟩
  · have hd := Lib.hid (decide_eq_false hbig)
    have hle1 : n ≤ 1048576 := by omega
    go_enter Tryz.func6, Tryz.ntmps6
    go_upto_region 3 with (first
      | (go_at_call 10; (refine Calls.mono alive_any ?_); rintro e w1 ⟨rfl, b1⟩; (have hB : Below w.heap.size w _ := bl_then (by (with_reducible (repeat' (first | exact Below.refl _ _ | assumption | apply bl_alloc | apply bl_drewN | apply bl_drew | refine bl_set ?_ ?_ _))) <;> (first | done | (simp; done) | (simp; omega) | omega)) b1); clear b1)
      | (go_at_call 16; refine Calls.mono (Beyond_one _ n b1 (by simp [go_sem])) ?_; rw [hd.out]; rintro e w2 ⟨rfl, rfl⟩))
    refine wp_world (fun wx => Below w.heap.size w wx) (by (with_reducible (repeat' (first | exact Below.refl _ _ | assumption | apply bl_alloc | apply bl_drewN | apply bl_drew | refine bl_set ?_ ?_ _))) <;> (first | done | (simp; done) | (simp; omega) | omega)) ?_
    rintro w2 hB2
    have HV2 := Lib.hid (HV.out.below hB2)
    clear hB hd
    generalize Value.slice (some ⟨w1.heap.size, 0, none⟩) 1 1 = gD
    have kc : (convert 24 24 (.slice (some ⟨w2.heap.size, 0, none⟩) 6 6)).run Tryz.prog (w2.alloc (.cells #[.int .u8 104, .int .u8 97, .int .u8 110, .int .u8 100, .int .u8 108, .int .u8 101] 5)) = .ok (.slice (some ⟨w2.heap.size, 0, none⟩) 6 6) (w2.alloc (.cells #[.int .u8 104, .int .u8 97, .int .u8 110, .int .u8 100, .int .u8 108, .int .u8 101] 5 (6, 7))) := Lib.run_convert_bytes_const w2 _ _ _ 6 6 Tryz.underlying24 Tryz.underlying5
    go_upto_region 4 with fail
    have h7 : Rd (w2.alloc (.cells #[.int .u8 104, .int .u8 97, .int .u8 110, .int .u8 100, .int .u8 108, .int .u8 101] 5 (6, 7))) (.slice (some ⟨w2.heap.size, 0, none⟩) 6 6) handleB := .inr ⟨w2.heap.size, 0, 6, rfl, by decide, by decide, by simp, fun j hj => by
      have hj : j < 6 := hj
      match j, hj with
      | 0, _ => exact cell_marked 0 rfl
      | 1, _ => exact cell_marked 1 rfl
      | 2, _ => exact cell_marked 2 rfl
      | 3, _ => exact cell_marked 3 rfl
      | 4, _ => exact cell_marked 4 rfl
      | 5, _ => exact cell_marked 5 rfl⟩
    have hb3 : Below w2.heap.size w2 (w2.alloc (.cells #[.int .u8 104, .int .u8 97, .int .u8 110, .int .u8 100, .int .u8 108, .int .u8 101] 5 (6, 7))) := bl_alloc (Below.refl _ _) _
    clear kc
    have H7 := Lib.hid h7
    have HB3 := Lib.hid (bl_then hB2 hb3)
    have HV3 := Lib.hid (HV2.out.below hb3)
    clear h7 hb3 hB2 HV2 HV
    generalize w2.alloc (.cells #[.int .u8 104, .int .u8 97, .int .u8 110, .int .u8 100, .int .u8 108, .int .u8 101] 5 (6, 7)) = w3 at *
    generalize w2.heap.size = D at *
    go_upto_region 5 with (first
      | (go_at_call 17; (refine Calls.mono (OPut_any H7.out (by decide)) ?_); rintro e w4 ⟨v4, rfl, o4, b4⟩; (have HO4 := Lib.hid o4); (have HB4 := Lib.hid b4); clear o4 b4)
      | (go_at_call 19; (refine Calls.mono (PutLong_any o HO.out.1 _) ?_); rintro e w5 ⟨v5, rfl, o5, b5⟩; (have HO5 := Lib.hid o5); (have HB5 := Lib.hid b5); clear o5 b5)
      | (go_at_call 20; (refine Calls.mono (Put_any q HO.out.2 _) ?_); rintro e w7 ⟨v7, rfl, o7, b7⟩; (have HO7 := Lib.hid o7); (have HB7 := Lib.hid b7); clear o7 b7)
      | (at_builtin; go_loud (refine wp_append_rd rfl _ _ rfl rfl rfl (HO4.out.below HB5.out) HO5.out.rd (Nat.le_of_ble_eq_true rfl) (Nat.le_trans HB4.out.size HB5.out.size) ?_; intro v6 w6 o6 _ b6; (have HO6 := Lib.hid o6); (have HB6 := Lib.hid b6); clear o6 b6))
      | (at_builtin; go_loud (refine wp_append_rd rfl _ _ rfl rfl rfl (HO6.out.below HB7.out) HO7.out.rd (Nat.le_of_ble_eq_true rfl) (Nat.le_trans (Nat.le_trans HB4.out.size HB5.out.size) (Nat.le_trans HB6.out.size HB7.out.size)) ?_; intro v8 w8 o8 _ b8; (have HO8 := Lib.hid o8); (have HB8 := Lib.hid b8); clear o8 b8)))
    have B36 : Below w3.heap.size w3 w6 := (bl_then HB4.out HB5.out).trans HB6.out
    have B38 : Below w3.heap.size w3 w8 := (bl_then B36 HB7.out).trans HB8.out
    have H8 := Lib.hid (H7.out.below B38)
    have HV8 := Lib.hid (HV3.out.below B38)
    have HX : opqB handleB ++ (put8 o ++ put4 q) = put4 handleB.length ++ qCut handleB ++ put8 o ++ put4 q := by simp [opqB]
    have hO8 := HO8.out
    rw [← HX] at hO8
    have hRx := hO8.rd
    obtain ⟨Ax, cx, rfl, _, _, qx, _⟩ := hO8.rd.bs
    have HXl : (opqB handleB ++ (put8 o ++ put4 q)).length = 24 := rfl
    obtain ⟨X, hX⟩ : ∃ X, opqB handleB ++ (put8 o ++ put4 q) = X := ⟨_, rfl⟩
    rw [hX] at qx HXl hRx ⊢
    rw [HXl] at qx hRx ⊢
    have HRx := Lib.hid hRx
    have HXe := Lib.hid (⟨hX, HXl⟩ : opqB handleB ++ (put8 o ++ put4 q) = X ∧ X.length = 24)
    have HQx := Lib.hid qx
    have HBw := Lib.hid (bl_then HB3.out B38)
    have HN := Lib.hid hn
    clear B36 B38 HX hO8 hX HXl qx hRx HO4 HO5 HO6 HO7 HO8 HB4 HB5 HB6 HB7 HB8 HB3 H7 HV3 hn
    generalize v4 = g4
    generalize v5 = g5
    generalize v6 = g6
    generalize v7 = g7
    go_upto_region 6 with (go_at_call 12; (refine Calls.mono (Put_read (p := 6) (o := o) (c := q) (by decide) rfl (by decide) HO.out.1 HO.out.2 H8.out) ?_); rintro e w9 ⟨v9, rfl, o9, b9⟩; (rw [HXe.out.1] at o9); (obtain ⟨A9, c9, rfl, _, _, q9, _⟩ := o9.rd.bs); (rw [HXe.out.2] at q9 ⊢); (have HQ9 := Lib.hid q9); (have HB9 := Lib.hid b9); clear o9 b9 q9)
    generalize Value.agg _ = g21
    go_upto_region 7 with (go_at_call 12; (refine Calls.mono (Put_read (p := 21) (o := o) (c := q) (by decide) rfl (by decide) HO.out.1 HO.out.2 (H8.out.below HB9.out)) ?_); rintro e w10 ⟨v10, rfl, o10, b10⟩; (rw [HXe.out.1] at o10); (obtain ⟨A10, c10, rfl, _, _, q10, _⟩ := o10.rd.bs); (rw [HXe.out.2] at q10 ⊢); (have HQ10 := Lib.hid q10); (have HB10 := Lib.hid b10); clear o10 b10 q10)
    generalize Value.agg _ = g22
    have HBc := Lib.hid (bl_then HB9.out HB10.out)
    have HQ9' := Lib.hid (HQ9.out.below HB10.out)
    clear HQ9 HB9 HB10
    go_wp2_with (first
      | (go_at_call 15; ((with_reducible refine Calls.mono (Same_any HQ9'.out (HQx.out.below HBc.out)) ?_); rw [decide_eq_true rfl]; rintro e wt ⟨rfl, bt⟩; (have HBd := Lib.hid (bl_then HBc.out bt)); (have HQt := Lib.hid (HQ10.out.below bt)); clear bt))
      | (go_at_call 15; ((with_reducible refine Calls.mono (Same_any HQt.out (HQx.out.below HBd.out)) ?_); rw [decide_eq_true rfl]; rintro e wu ⟨rfl, bu⟩; (have HBe := Lib.hid (bl_then HBd.out bu)); clear bu)))
    clear HBc HBd HQt HQ10 HQ9'
    go_loopw [13, 14, 15, 16] (fun s13 s14 s15 s16 wr => ∃ k : Nat, k ≤ 4 ∧ s13 = .int .u32 k ∧ Hid (Below w8.heap.size w8 wr)) (fun s13 _ _ _ wr => 4 - (intOf s13).toNat)
    case atStart => exact ⟨0, Nat.zero_le _, rfl, HBe⟩
    case round =>
      obtain ⟨k, hk, rfl, HBr⟩ := hrel
      by_cases hlt : k < 4
      · have hkI : (k : Int) < 4 := by omega
        by_cases g : k ≤ 2 ∧ n ≤ 32768
        · have hs2 : ¬ (k : Int) > 2 := by omega
          have hd2 : ¬ (n : Int) > 32768 := by omega
          have HG := Lib.hid (show k ≤ 2 ∧ xs.length ≤ 32768 from ⟨g.1, by rw [HN.out]; exact g.2⟩)
          have HXS := Lib.hid (show xs.length ≤ 1900000 by rw [HN.out]; omega)
          have HK4 := Lib.hid (show k < 4294967296 by omega)
          clear g
          have HEq := Lib.hid (show opqB handleB ++ (put8 o ++ (put4 q ++ (put4 k ++ opqB xs))) = [] ++ X ++ put4 k ++ (put4 xs.length ++ qCut xs) by rw [← HXe.out.1]; simp [opqB])
          obtain ⟨Ly, hLy⟩ : ∃ m, ([] ++ X ++ put4 k ++ (put4 xs.length ++ qCut xs)).length = m := ⟨_, rfl⟩
          have HLy := Lib.hid hLy
          clear hLy
          go_upto_region 13 with (go_at_call 12; (refine Calls.mono (Put_write (o := o) (c := q) (s := k) (by decide) HO.out.1 HO.out.2 HK4.out (H8.out.below HBr.out) (HV8.out.below HBr.out)) ?_); rintro e wq hput; (obtain ⟨vb, rfl, ob, bb⟩ := hput.okay (if_pos HG.out)); (rw [HEq.out] at ob); (obtain ⟨Ab, cb, rfl, _, _, qb, _⟩ := ob.rd.bs); (rw [HLy.out] at qb ⊢); (have HQb := Lib.hid qb); (have HBr := Lib.hid (bl_then HBr.out bb)); clear hput ob bb qb)
          generalize Value.agg _ = g23
          have hwq : wq = wq := rfl
          go_upto_region 17 with (first
            | (go_at_call 20; (refine Calls.mono (Put_any k HK4.out _) ?_); rintro e wb ⟨vk, rfl, ok, bk⟩; (have HOk := Lib.hid ok); (have HBk := Lib.hid bk); clear ok bk)
            | (go_at_call 17; (refine Calls.mono (OPut_any (HV8.out.below (bl_then HBr.out (((bl_then HBa.out HBk.out)).trans HBc.out))) HXS.out) ?_); rintro e wd ⟨vo, rfl, od, bd⟩; (have HOd := Lib.hid od); (have HBd := Lib.hid bd); clear od bd)
            | (at_builtin; (refine wp_append_rd rfl _ _ rfl rfl rfl (OwnB.nil wq wq.heap.size) (HRx.out.below HBr.out) (by have := HXe.out.2; simp only [List.length_nil]; omega) (Nat.le_refl _) ?_; intro va wa oa _ ba; (have HOa := Lib.hid oa); (have HBa := Lib.hid ba); clear oa ba))
            | (at_builtin; (refine wp_append_rd rfl _ _ rfl rfl rfl (HOa.out.below HBk.out) HOk.out.rd (by have := HXe.out.2; simp only [List.length_append, List.length_nil, put4_length]; omega) (Nat.le_trans HBa.out.size HBk.out.size) ?_; intro vc wc oc _ bc; (have HOc := Lib.hid oc); (have HBc := Lib.hid bc); clear oc bc))
            | (at_builtin; go_loud (refine wp_append_rd rfl _ _ rfl rfl rfl (HOc.out.below HBd.out) HOd.out.rd (by have := HXe.out.2; have := HXS.out; simp only [List.length_append, List.length_nil, put4_length, qCut_length]; unfold padN; omega) (Nat.le_trans (Nat.le_trans (Nat.le_trans HBa.out.size HBk.out.size) HBc.out.size) HBd.out.size) ?_; intro vf wf of _ bf; (obtain ⟨Af, cf, rfl, _, _, qf, _⟩ := of.rd.bs); (rw [HLy.out] at qf ⊢); (have HQf := Lib.hid qf); (have HBf := Lib.hid bf); clear of bf qf)))
          have HBy := Lib.hid ((bl_then ((bl_then HBa.out HBk.out).trans HBc.out) HBd.out).trans HBf.out)
          have HQb2 := Lib.hid (HQb.out.below HBy.out)
          have HBr2 := Lib.hid (bl_then HBr.out HBy.out)
          clear hwq HOa HOk HOc HOd HBa HBk HBc HBd HBf HQb HBr HBy
          go_wp2_with (go_at_call 15; ((refine Calls.mono (Same_any HQb2.out HQf.out) ?_); rw [decide_eq_true rfl]; rintro e wt ⟨rfl, bt⟩; (have HBr := Lib.hid (bl_then HBr2.out bt)); clear bt))
          go_roundw
          case rel => first | exact ⟨k + 1, by omega, by go_num, HBr⟩ | ((repeat apply Exists.intro); refine ⟨?_, rfl⟩; exact ⟨k + 1, by omega, by go_num, HBr⟩)
          case measure => simp [intOf]; omega
        · have HG := Lib.hid (show ¬ (k ≤ 2 ∧ xs.length ≤ 32768) by rw [HN.out]; exact g)
          have HK4 := Lib.hid (show k < 4294967296 by omega)
          by_cases g2 : k ≤ 2
          · have hs2 : ¬ (k : Int) > 2 := by omega
            have hd2 : (n : Int) > 32768 := by omega
            clear g g2
            go_wp2_with (go_at_call 12; (refine Calls.mono (Put_write (o := o) (c := q) (s := k) (by decide) HO.out.1 HO.out.2 HK4.out (H8.out.below HBr.out) (HV8.out.below HBr.out)) ?_); rintro e wq hput; (obtain ⟨rfl, bb⟩ := hput.fails (if_neg HG.out)); (have HBr := Lib.hid (bl_then HBr.out bb)); clear hput bb)
            go_roundw
            case rel => first | exact ⟨k + 1, by omega, by go_num, HBr⟩ | ((repeat apply Exists.intro); refine ⟨?_, rfl⟩; exact ⟨k + 1, by omega, by go_num, HBr⟩)
            case measure => simp [intOf]; omega
          · have hs2 : (k : Int) > 2 := by omega
            clear g g2
            go_wp2_with (go_at_call 12; (refine Calls.mono (Put_write (o := o) (c := q) (s := k) (by decide) HO.out.1 HO.out.2 HK4.out (H8.out.below HBr.out) (HV8.out.below HBr.out)) ?_); rintro e wq hput; (obtain ⟨rfl, bb⟩ := hput.fails (if_neg HG.out)); (have HBr := Lib.hid (bl_then HBr.out bb)); clear hput bb)
            go_roundw
            case rel => first | exact ⟨k + 1, by omega, by go_num, HBr⟩ | ((repeat apply Exists.intro); refine ⟨?_, rfl⟩; exact ⟨k + 1, by omega, by go_num, HBr⟩)
            case measure => simp [intOf]; omega
      · obtain rfl : k = 4 := by omega
        clear hlt hk
        go_wp2_with fail
        go_ret
        exact ⟨rfl, bl_then HBw.out HBr.out⟩
end
end Go.Proofs.YtgmhapjidbdhnaaGreat

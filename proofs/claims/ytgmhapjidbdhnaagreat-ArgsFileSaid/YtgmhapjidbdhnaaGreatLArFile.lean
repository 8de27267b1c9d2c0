/- ArgsFile: the law's walk. -/
import Derived.Test.YtgmhapjidbdhnaaGreatArLawsKit
set_option linter.unusedVariables false
set_option linter.unusedSimpArgs false
namespace Go.Proofs.YtgmhapjidbdhnaaGreat
open Go.RowKit
def oneL : List Nat := [1, 5, 18, 19, 20]
def twoL : List Nat := [3, 12, 13]
theorem oneL_ok (k : Nat) (hk : k < 5) : oneL.getD k 0 ≤ 21 ∧ partsOf (oneL.getD k 0) = [ptH] := by
  match k, hk with
  | 0, _ => exact ⟨by decide, rfl⟩
  | 1, _ => exact ⟨by decide, rfl⟩
  | 2, _ => exact ⟨by decide, rfl⟩
  | 3, _ => exact ⟨by decide, rfl⟩
  | 4, _ => exact ⟨by decide, rfl⟩
theorem twoL_ok (k : Nat) (hk : k < 3) : twoL.getD k 0 ≤ 21 ∧ partsOf (twoL.getD k 0) = [ptH, ptName] := by
  match k, hk with
  | 0, _ => exact ⟨by decide, rfl⟩
  | 1, _ => exact ⟨by decide, rfl⟩
  | 2, _ => exact ⟨by decide, rfl⟩
theorem row_cells {w w' : World} {b : Nat} {L : List Nat} {vs : Array Value} (hv : vs.toList = L.map fun (x : Nat) => Value.int .u32 (x : Int)) (hb : b < w.heap.size) (hc : ∀ k, w.cell? ⟨b, k, none⟩ = vs[k]?) (hw : Below w.heap.size w w') (k : Nat) (hk : k < L.length) : w'.cell? ⟨b, k, none⟩ = some (.int .u32 ((L.getD k 0 : Nat) : Int)) := by
  rw [hw.cell (p := ⟨b, k, none⟩) hb, hc, ← Array.getElem?_toList, hv, List.getElem?_map, List.getD_eq_getElem?_getD, List.getElem?_eq_getElem hk]
  rfl
section
variable {w : World}
set_option maxRecDepth 100000 in
set_option maxHeartbeats 4000000 in
theorem LArgsFile {A : Option Addr} {n c : Nat} {xs ns : List UInt8} (hv : Rd w (.slice A n c) xs) (hn : xs.length = n) (b1 : n ≤ 9223372036854775807) (b2 : ns.length ≤ 4611686018427387904) : Calls Tryz.prog 5 #[.slice A n c, strV ns] w fun e w' => e = .returned (.bool true) ∧ Below w.heap.size w w' := by
  have HV := Lib.hid hv
  clear hv
  have zs : (ByteArray.mk ns.toArray).size = ns.length := rfl
  by_cases hbig : 1048576 < n + ns.length
  · have HN := Lib.hid hn
    have hd := Lib.hid (decide_eq_true hbig)
    clear hn hbig
    unfold strV
    go_enter Tryz.func5, Tryz.ntmps5
    go_wp2_with (first
      | (go_at_call 10; (refine Calls.mono alive_any ?_); rintro e w1 ⟨rfl, b1⟩; (have hB : Below w.heap.size w _ := bl_then (by (with_reducible (repeat' (first | exact Below.refl _ _ | assumption | apply bl_alloc | apply bl_drewN | apply bl_drew | refine bl_set ?_ ?_ _))) <;> (first | done | (simp; done) | (simp; omega) | omega)) b1); clear b1)
      | (go_at_call 16; refine Calls.mono (Beyond_two _ n ns.length b1 b2 (by simp [go_sem]) (by simp [go_sem])) ?_; rw [hd.out]; rintro e w2 ⟨rfl, rfl⟩))
    go_ret
    exact ⟨rfl, by (with_reducible (repeat' (first | exact Below.refl _ _ | assumption | apply bl_alloc | apply bl_drewN | apply bl_drew | refine bl_set ?_ ?_ _))) <;> (first | done | (simp; done) | (simp; omega) | omega)⟩
  · have hd := Lib.hid (decide_eq_false hbig)
    have hle1 : n ≤ 1048576 := by omega
    have hle2 : ns.length ≤ 1048576 := by omega
    unfold strV
    go_enter Tryz.func5, Tryz.ntmps5
    go_upto_region 3 with (first
      | (go_at_call 10; (refine Calls.mono alive_any ?_); rintro e w1 ⟨rfl, b1⟩; (have hB : Below w.heap.size w _ := bl_then (by (with_reducible (repeat' (first | exact Below.refl _ _ | assumption | apply bl_alloc | apply bl_drewN | apply bl_drew | refine bl_set ?_ ?_ _))) <;> (first | done | (simp; done) | (simp; omega) | omega)) b1); clear b1)
      | (go_at_call 16; refine Calls.mono (Beyond_two _ n ns.length b1 b2 (by simp [go_sem]) (by simp [go_sem])) ?_; rw [hd.out]; rintro e w2 ⟨rfl, rfl⟩))
    go_upto_region 5 with fail
    have hs1 := hB.size
    (try simp at hs1)
    refine wp_world (fun wx => (∀ k, k < 5 → wx.cell? ⟨w1.heap.size + 1, k, none⟩ = some (.int .u32 ((oneL.getD k 0 : Nat) : Int))) ∧ (∀ k, k < 3 → wx.cell? ⟨w1.heap.size + 1 + 1, k, none⟩ = some (.int .u32 ((twoL.getD k 0 : Nat) : Int))) ∧ w1.heap.size + 1 + 1 < wx.heap.size ∧ Below w.heap.size w wx) ⟨fun k hk => ?_, fun k hk => ?_, by simp, by (with_reducible (repeat' (first | exact Below.refl _ _ | assumption | apply bl_alloc | apply bl_drewN | apply bl_drew | refine bl_set ?_ ?_ _))) <;> (first | done | (simp; done) | (simp; omega) | omega)⟩ ?_
    · match k, hk with
      | 0, _ => simp [go_sem, oneL]
      | 1, _ => simp [go_sem, oneL]
      | 2, _ => simp [go_sem, oneL]
      | 3, _ => simp [go_sem, oneL]
      | 4, _ => simp [go_sem, oneL]
    · match k, hk with
      | 0, _ => simp [go_sem, twoL]
      | 1, _ => simp [go_sem, twoL]
      | 2, _ => simp [go_sem, twoL]
    rintro w2 ⟨c5, c3, hsz, hB2⟩
    have HV2 := Lib.hid (HV.out.below hB2)
    have H5 := Lib.hid c5
    have H3 := Lib.hid c3
    have HN := Lib.hid hn
    have hx : xs.length ≤ 1048576 := by omega
    have HSz := Lib.hid hsz
    clear c5 c3 hB hs1 HV hd hn hbig hsz
    generalize w1.heap.size = D at *
    go_upto_region 6 with (go_at_call 17; (refine Calls.mono (OPut_any HV2.out (by omega)) ?_); rintro e w3 ⟨vx, rfl, o3, b3⟩; (have HO3 := Lib.hid o3); (have HB3 := Lib.hid b3); clear o3 b3)
    go_upto_region 7 with (first
      | (go_at_call 17; (refine Calls.mono (OPut_any (HV2.out.below HB3.out) (by omega)) ?_); rintro e w4 ⟨vy, rfl, o4, b4⟩; (have HO4 := Lib.hid o4); (have HB4 := Lib.hid b4); clear o4 b4)
      | (go_at_call 18; (refine Calls.mono (SPut_any (xs := ns) (by omega)) ?_); rintro e w5 ⟨vz, rfl, o5, b5⟩; (have HO5 := Lib.hid o5); (have HB5 := Lib.hid b5); clear o5 b5)
      | (at_builtin; go_loud (refine wp_append_rd rfl _ _ rfl rfl rfl (HO4.out.below HB5.out) HO5.out.rd (by simp only [List.length_append, qCut_length, put4_length]; unfold padN; omega) (Nat.le_trans HB4.out.size HB5.out.size) ?_; intro vw w6 o6 _ b6; (have HO6 := Lib.hid o6); (have HB6 := Lib.hid b6); clear o6 b6)))
    have B36 : Below w3.heap.size w3 w6 := (bl_then HB4.out HB5.out).trans HB6.out
    have B26 := bl_then HB3.out B36
    have H5 := Lib.hid (fun k hk => ((bcell B26).1 _ k (by have := HSz.out; omega)).trans (H5.out k hk))
    have H3 := Lib.hid (fun k hk => ((bcell B26).1 _ k (by have := HSz.out; omega)).trans (H3.out k hk))
    have HV6 := Lib.hid (HV2.out.below B26)
    obtain ⟨Ax, cx, rfl, _, _, qx, _⟩ := (HO3.out.rd.below B36).bs
    obtain ⟨Ay, cy, rfl, _, _, qy, _⟩ := HO6.out.rd.bs
    have HQx := Lib.hid qx
    have HQy := Lib.hid qy
    have HB := Lib.hid (bl_then hB2 B26)
    have hs := HSz.out
    have hs' := B26.size
    have HD : D + 1 + 1 < w6.heap.size := by omega
    clear B36 B26 qx qy HO3 HO4 HO5 HO6 HB3 HB4 HB5 HB6 HV2 HSz hs hs' hB2
    generalize Value.slice (some ⟨D, 0, none⟩) 2 2 = gD
    generalize (put4 xs.length ++ qCut xs ++ (put4 ns.length ++ qCut ns)).length = Ly at *
    generalize (put4 xs.length ++ qCut xs).length = Lx at *
    generalize vy = gy
    generalize vz = gz
    go_wp2_with fail
    go_loopw [9, 10, 11] (fun s9 s10 s11 wr => ∃ k : Nat, k ≤ 5 ∧ s9 = .int .i64 k ∧ Hid (Below w6.heap.size w6 wr)) (fun s9 _ _ wr => 5 - (intOf s9).toNat)
    case atStart => exact ⟨0, Nat.zero_le _, rfl, Lib.hid (Below.refl _ _)⟩
    case round =>
      obtain ⟨k, hk, rfl, HBr⟩ := hrel
      by_cases hlt : k < 5
      · have hcell := ((bcell HBr.out).1 _ k (by omega)).trans (H5.out k hlt)
        have hkI : (k : Int) < 5 := by omega
        obtain ⟨hp, hq⟩ := oneL_ok k hlt
        obtain ⟨p, hpe⟩ : ∃ p, oneL.getD k 0 = p := ⟨_, rfl⟩
        rw [hpe] at hp hq hcell
        have HPq := Lib.hid (show p ≤ 21 ∧ partsOf p = [ptH] from ⟨hp, hq⟩)
        clear hp hq hpe
        by_cases g : xs.length ≤ 64
        · have hg : decide ((n : Int) ≤ 64) = true := by have := HN.out; simp; omega
          have HG := Lib.hid g
          clear g
          go_wp2_with (first
            | (go_at_call 12; (refine Calls.mono (Put_alone HPq.out.1 HPq.out.2 (HV6.out.below HBr.out)) ?_); rintro e wq hput; (obtain ⟨vb, rfl, ob, bb⟩ := hput.okay (if_pos HG.out)); (obtain ⟨Ab, cb, rfl, _, _, qb, _⟩ := ob.rd.bs); (have HQb := Lib.hid qb); (have HBr := Lib.hid (bl_then HBr.out bb)); clear hput ob bb qb)
            | (go_at_call 15; ((refine Calls.mono (Same_any HQb.out (HQx.out.below HBr.out)) ?_); rw [decide_eq_true (show opqB xs = put4 xs.length ++ qCut xs from rfl)]; rintro e wt ⟨rfl, bt⟩; (have HBr := Lib.hid (bl_then HBr.out bt)); clear bt)))
          go_roundw
          case rel => exact ⟨k + 1, by omega, by go_num, HBr⟩
          case measure => simp [intOf]; omega
        · have hg : decide ((n : Int) ≤ 64) = false := by have := HN.out; simp; omega
          have HG := Lib.hid g
          clear g
          go_wp2_with (first
            | (go_at_call 12; (refine Calls.mono (Put_alone HPq.out.1 HPq.out.2 (HV6.out.below HBr.out)) ?_); rintro e wq hput; (obtain ⟨rfl, bb⟩ := hput.fails (if_neg HG.out)); (have HBr := Lib.hid (bl_then HBr.out bb)); clear hput bb))
          go_roundw
          case rel => exact ⟨k + 1, by omega, by go_num, HBr⟩
          case measure => simp [intOf]; omega
      · obtain rfl : k = 5 := by omega
        clear hlt hk
        go_wp2_with fail
        have HBs := HBr
        clear HBr
        go_loopw [12, 13, 14] (fun s12 s13 s14 wr => ∃ k : Nat, k ≤ 3 ∧ s12 = .int .i64 k ∧ Hid (Below w6.heap.size w6 wr)) (fun s12 _ _ wr => 3 - (intOf s12).toNat)
        case atStart => exact ⟨0, Nat.zero_le _, rfl, HBs⟩
        case round =>
          obtain ⟨k, hk, rfl, HBr⟩ := hrel
          by_cases hlt : k < 3
          · have hcell := ((bcell HBr.out).1 _ k (by omega)).trans (H3.out k hlt)
            have hkI : (k : Int) < 3 := by omega
            obtain ⟨hp, hq⟩ := twoL_ok k hlt
            obtain ⟨p, hpe⟩ : ∃ p, twoL.getD k 0 = p := ⟨_, rfl⟩
            rw [hpe] at hp hq hcell
            have HPq := Lib.hid (show p ≤ 21 ∧ partsOf p = [ptH, ptName] from ⟨hp, hq⟩)
            clear hp hq hpe
            by_cases g : xs.length ≤ 64
            · have hg : decide ((n : Int) ≤ 64) = true := by have := HN.out; simp; omega
              by_cases g2 : ns.length ≤ 1024
              · have hg2 : decide ((ns.length : Int) ≤ 1024) = true := by simp; omega
                have HG := Lib.hid (⟨g, g2⟩ : xs.length ≤ 64 ∧ ns.length ≤ 1024)
                clear g g2
                go_wp2_with (first
                  | (go_at_call 12; (refine Calls.mono (Put_named (name := ns) HPq.out.1 HPq.out.2 (HV6.out.below HBr.out)) ?_); rintro e wq hput; (obtain ⟨vb, rfl, ob, bb⟩ := hput.okay (if_pos HG.out)); (obtain ⟨Ab, cb, rfl, _, _, qb, _⟩ := ob.rd.bs); (obtain ⟨Lb, hLb⟩ : ∃ m, (opqB xs ++ opqB ns).length = m := ⟨_, rfl⟩); (rw [hLb] at qb ⊢); clear hLb; (have HQb := Lib.hid qb); (have HBr := Lib.hid (bl_then HBr.out bb)); clear hput ob bb qb)
                  | (go_at_call 15; ((refine Calls.mono (Same_any HQb.out (HQy.out.below HBr.out)) ?_); rw [decide_eq_true (show opqB xs ++ opqB ns = put4 xs.length ++ qCut xs ++ (put4 ns.length ++ qCut ns) from rfl)]; rintro e wt ⟨rfl, bt⟩; (have HBr := Lib.hid (bl_then HBr.out bt)); clear bt)))
                go_roundw
                case rel => (repeat apply Exists.intro); refine ⟨?_, rfl⟩; exact ⟨k + 1, by omega, by go_num, HBr⟩
                case measure => simp [intOf]; omega
              · have hg2 : decide ((ns.length : Int) ≤ 1024) = false := by simp; omega
                have HG := Lib.hid (fun h => g2 h.2 : ¬ (xs.length ≤ 64 ∧ ns.length ≤ 1024))
                clear g g2
                go_wp2_with (first
                  | (go_at_call 12; (refine Calls.mono (Put_named (name := ns) HPq.out.1 HPq.out.2 (HV6.out.below HBr.out)) ?_); rintro e wq hput; (obtain ⟨rfl, bb⟩ := hput.fails (if_neg HG.out)); (have HBr := Lib.hid (bl_then HBr.out bb)); clear hput bb))
                go_roundw
                case rel => (repeat apply Exists.intro); refine ⟨?_, rfl⟩; exact ⟨k + 1, by omega, by go_num, HBr⟩
                case measure => simp [intOf]; omega
            · have hg : decide ((n : Int) ≤ 64) = false := by have := HN.out; simp; omega
              have HG := Lib.hid (fun h => g h.1 : ¬ (xs.length ≤ 64 ∧ ns.length ≤ 1024))
              clear g
              go_wp2_with (first
                | (go_at_call 12; (refine Calls.mono (Put_named (name := ns) HPq.out.1 HPq.out.2 (HV6.out.below HBr.out)) ?_); rintro e wq hput; (obtain ⟨rfl, bb⟩ := hput.fails (if_neg HG.out)); (have HBr := Lib.hid (bl_then HBr.out bb)); clear hput bb))
              go_roundw
              case rel => (repeat apply Exists.intro); refine ⟨?_, rfl⟩; exact ⟨k + 1, by omega, by go_num, HBr⟩
              case measure => simp [intOf]; omega
          · obtain rfl : k = 3 := by omega
            clear hlt hk
            go_wp2_with fail
            go_ret
            exact ⟨rfl, bl_then HB.out HBr.out⟩
end
end Go.Proofs.YtgmhapjidbdhnaaGreat

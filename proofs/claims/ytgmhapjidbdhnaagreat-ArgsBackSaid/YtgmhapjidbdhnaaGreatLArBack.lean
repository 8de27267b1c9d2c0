/- ArgsBack: the law's walk. -/
import Derived.Test.YtgmhapjidbdhnaaGreatArAlive
import Derived.Test.YtgmhapjidbdhnaaGreatArSizeB
import Derived.Test.YtgmhapjidbdhnaaGreatArSame
import Derived.Test.YtgmhapjidbdhnaaGreatArLen
import Derived.Test.YtgmhapjidbdhnaaGreatArMod
set_option linter.unusedVariables false
set_option linter.unusedSimpArgs false
namespace Go.Proofs.YtgmhapjidbdhnaaGreat
open Go.RowKit
/-- A whole row is read, by an operation that is wanted. -/
theorem wpList_load_on {P : Program} {ops : Array Oper} {rest : List Oper} {op : Oper} {a : Act} {w : World} {Q : Exit → Act → World → Prop} (hw : Region.wanted op (yielded ops a.tmps) = true) (ty : TypeId) (x : Operand) (ho : op.op = .load ty x)
    (b o : Nat) (hx : a.eval x = .pointer (some ⟨b, o, none⟩)) (cs : List Value) (d : TypeDesc) (hc : w.rangeAt b o cs)
    (hu : P.underlying ty = some d) (hd : d.isRow = true) (hi : (P.info? ty).map (·.size) = some cs.length)
    (h : wpList P ops Q rest (a.put op.dst (.agg cs.toArray)) w) : wpList P ops Q (op :: rest) a w :=
  wpList_step fun K hK => by rw [if_pos hw]; exact wp_load_mid ty x ho b o hx cs d hc hu hd hi (hK _ _ h)
/-- A record lies at K, its bytes wherever. -/
structure BackAt (w : World) (K : Nat) (a : Ar) (v1 v2 v3 : Value) : Prop where
  own : OwnL w K (arC v1 v2 v3 a)
  h1 : Rd w v1 a.h
  h2 : Rd w v2 a.h2
  h3 : Rd w v3 a.data
theorem BackAt.below {w w' : World} {K : Nat} {a : Ar} {v1 v2 v3 : Value} (h : BackAt w K a v1 v2 v3) (hb : Below w.heap.size w w') : BackAt w' K a v1 v2 v3 := ⟨h.own.trk hb, h.h1.below hb, h.h2.below hb, h.h3.below hb⟩
theorem BackAt.only {w w' : World} {K : Nat} {a : Ar} {v1 v2 v3 : Value} {P : Nat → Prop} (h : BackAt w K a v1 v2 v3) (ho : Only P w w') (hK : ¬ P K) (n1 : ∀ g, Value.inBlock v1 = some g → ¬ P g) (n2 : ∀ g, Value.inBlock v2 = some g → ¬ P g) (n3 : ∀ g, Value.inBlock v3 = some g → ¬ P g) : BackAt w' K a v1 v2 v3 := ⟨h.own.only ho hK, h.h1.only ho n1, h.h2.only ho n2, h.h3.only ho n3⟩
theorem OwnB.lo {w : World} {base g : Nat} {v : Value} {bs : List UInt8} (h : OwnB w base v bs) (hg : v.ownBlock = some g) : base ≤ g := by
  unfold OwnB at h
  rcases h.2 with ⟨rfl, _⟩ | ⟨g', cap, cur, rfl, hb, _⟩
  · cases hg
  · have hg : g' = g := by simpa [Value.ownBlock] using hg
    omega
theorem Rd.take {w : World} {A : Option Addr} {n c j : Nat} {xs : List UInt8} (h : Rd w (.slice A n c) xs) (hn : xs.length = n) (hj : j < n) : Rd w (.slice A j c) (xs.take j) := by
  rcases h with ⟨h, h0⟩ | ⟨b, off, c', e, h1, h2, h3, h4⟩
  · rw [h0] at hn; simp at hn; omega
  · injection e with e1 e2 e3
    subst e1; subst e3
    have hl : (xs.take j).length = j := by rw [List.length_take]; omega
    refine .inr ⟨b, off, c, by rw [hl], by omega, h2, h3, fun i hi => ?_⟩
    rw [hl] at hi
    rw [h4 i (by omega), List.getD_eq_getElem?_getD, List.getD_eq_getElem?_getD, List.getElem?_take_of_lt hi]
theorem rd_zero (w : World) : Rd (w.alloc (.cells #[.int .u8 0] 5)) (.slice (some ⟨w.heap.size, 0, none⟩) 1 1) [0] := .inr ⟨w.heap.size, 0, 1, rfl, by decide, by decide, by simp, fun j hj => by
  have hj : j < 1 := hj
  obtain rfl : j = 0 := by omega
  simp [go_sem]⟩
theorem only_below {P : Nat → Prop} {w w1 w2 : World} (h : Below w.heap.size w w1) (k : Only P w1 w2) (hP : ∀ i, P i → w.heap.size ≤ i) : Below w.heap.size w w2 :=
  ⟨k.os.trans h.os, k.tape.trans h.tape, k.output.trans h.output, Nat.le_trans h.size k.size, fun i hi => (k.block i (Nat.lt_of_lt_of_le hi h.size) (fun hp => absurd (hP i hp) (by omega))).trans (h.block i hi)⟩
section
variable {w : World}
set_option maxRecDepth 100000 in
set_option maxHeartbeats 8000000 in
theorem LArgsBack {a : Ar} {v1 v2 v3 : Value} {c : Nat} (hw : ArWf a) (h1 : Rd w v1 a.h) (h2 : Rd w v2 a.h2) (h3 : Rd w v3 a.data) (hc : c < 65536) : Calls Tryz.prog 3 #[.agg (arC v1 v2 v3 a).toArray, .int .u16 (c : Int)] w fun e w' => e = .returned (.bool true) ∧ Below w.heap.size w w' := by
  have hlen := arC_len (v1 := v1) (v2 := v2) (v3 := v3) hw.verf
  obtain ⟨l, hl⟩ : ∃ l, arC v1 v2 v3 a = l := ⟨_, rfl⟩
  rw [hl] at hlen ⊢
  have HW := Lib.hid hw; have H1 := Lib.hid h1; have H2 := Lib.hid h2; have H3 := Lib.hid h3; have HL := Lib.hid hlen; have HE := Lib.hid hl; have HC := Lib.hid hc
  have HVw := Lib.hid (show (∀ g, Value.inBlock v1 = some g → g < w.heap.size) ∧ (∀ g, Value.inBlock v2 = some g → g < w.heap.size) ∧ (∀ g, Value.inBlock v3 = some g → g < w.heap.size) from ⟨fun g hg => rd_block h1 hg, fun g hg => rd_block h2 hg, fun g hg => rd_block h3 hg⟩)
  clear hw h1 h2 h3 hlen hl hc
  go_enter Tryz.func3, Tryz.ntmps3
  go_upto_region 1 with fail
  refine wp_world (fun wx => OwnL wx w.heap.size l ∧ Below w.heap.size w wx) ⟨OwnL.made w l 33, by (with_reducible (repeat' (first | exact Below.refl _ _ | assumption | apply bl_alloc | apply bl_drewN | apply bl_drew | refine bl_set ?_ ?_ _))) <;> (first | done | (simp; done) | (simp; omega) | omega)⟩ ?_
  rintro w1 ⟨oK, hB1⟩
  rw [← HE.out] at oK
  have HA := Lib.hid (show BackAt w1 w.heap.size a v1 v2 v3 from ⟨oK, H1.out.below hB1, H2.out.below hB1, H3.out.below hB1⟩)
  have HB := Lib.hid hB1
  have HL40 := Lib.hid (show (arC v1 v2 v3 a).length = 40 by rw [HE.out, HL.out])
  generalize Value.agg l.toArray = gl
  have hK := oK.1
  clear oK hB1 H1 H2 H3 HE HL
  go_upto_region 3 with (first
    | (go_at_call 10; (refine Calls.mono alive_any ?_); rintro e w2 ⟨rfl, b2⟩; (have HA := Lib.hid (HA.out.below b2)); (have HB := Lib.hid (bl_then HB.out b2)); clear b2)
    | (refine wpList_load_on (by kernel_rfl) 33 _ rfl w.heap.size 0 rfl (arC v1 v2 v3 a) _ HA.out.own.range Tryz.underlying33 rfl (by rw [HL40.out]; kernel_rfl) ?_)
    | (go_at_call 11; (refine Calls.mono (ArgsSize_some HW.out HA.out.h1 HA.out.h2 HA.out.h3) ?_); rintro e w3 ⟨s, rfl, b3⟩; (have HA := Lib.hid (HA.out.below b3)); (have HB := Lib.hid (bl_then HB.out b3)); clear b3))
  · go_ret
    exact ⟨rfl, HB.out⟩
  rcases hp : putA a with er | bs
  · obtain rfl := putA_err hp
    have HPe := Lib.hid hp
    clear hp
    go_wp2_with (first
      | (refine wpList_load_mid rfl 33 _ rfl w.heap.size 0 rfl (arC v1 v2 v3 a) _ HA.out.own.range Tryz.underlying33 rfl (by rw [HL40.out]; kernel_rfl) ?_)
      | (go_at_call 12; (refine Calls.mono (Put_walk HW.out HA.out.h1 HA.out.h2 HA.out.h3) ?_); rintro e w4 hput; (obtain ⟨rfl, b4⟩ := hput.fails HPe.out); (have HB := Lib.hid (bl_then HB.out b4)); clear hput b4))
    go_ret
    exact ⟨rfl, HB.out⟩
  have HPe := Lib.hid hp
  obtain ⟨hple, hseq, hgot⟩ := putA_ok hp
  have HGt := Lib.hid hgot
  have HMore := Lib.hid (put_more hp [0] (by decide))
  have HShort := Lib.hid (put_short hp)
  clear hp hseq hgot
  have HN2 := Lib.hid (putA_len HW.out.verf HPe.out)
  go_upto_region 4 with (first
    | (refine wpList_load_mid rfl 33 _ rfl w.heap.size 0 rfl (arC v1 v2 v3 a) _ HA.out.own.range Tryz.underlying33 rfl (by rw [HL40.out]; kernel_rfl) ?_)
    | (go_at_call 12; (refine Calls.mono (Put_walk HW.out HA.out.h1 HA.out.h2 HA.out.h3) ?_); rintro e w4 hput; (obtain ⟨vb, rfl, ob, b4⟩ := hput.okay HPe.out); (obtain ⟨Ab, cb, rfl, hbc, _, _⟩ := ob.reads); (have HBc := Lib.hid hbc); clear hbc; (have HA4 := Lib.hid (HA.out.below b4)); (have HB4 := Lib.hid (bl_then HB.out b4)); (have HGlo := Lib.hid (fun i (hi : (Value.slice Ab bs.length cb).ownBlock = some i) => (show w.heap.size < i from Nat.lt_of_lt_of_le HA.out.own.1 (ob.lo hi)))); (have HGhi := Lib.hid (fun i (hi : (Value.slice Ab bs.length cb).ownBlock = some i) => ob.block_lt hi)); (have HO := Lib.hid (ob.mono (Nat.zero_le _))); clear hput ob b4))
  generalize Value.agg _ = g20
  clear HA HB
  obtain ⟨nb, hnb⟩ : ∃ n, bs.length = n := ⟨_, rfl⟩
  rw [hnb] at HO HGlo HGhi HBc ⊢
  have HNb := Lib.hid hnb
  clear hnb
  have hK4 : w.heap.size < w4.heap.size := HA4.out.own.1
  have g0 : w4.cell? ⟨w.heap.size, 0, none⟩ = some (.int .u32 a.proc) := HA4.out.own.2.1 0
  go_upto_region 7 with (first
    | (go_at_call 13; (refine Calls.mono (Get_any HW.out.proc HO.out.rd (by have := HN2.out; omega)) ?_); rintro e w5 hg; (obtain ⟨u1, u2, u3, rfl, hout, b5⟩ := hg.okay HGt.out); (obtain ⟨cs, hcs⟩ : ∃ cs, arC u1 u2 u3 a = cs := ⟨_, rfl⟩); (have HLc := Lib.hid (show cs.length = 40 by rw [← hcs]; exact arC_len HW.out.verf)); (have HOne := Lib.hid (show ∀ v ∈ cs, v.oneCell' = true by rw [← hcs]; exact arC_one hout.h1.one hout.h2.one hout.h3.one)); (rw [hcs]); (have HCs := Lib.hid hcs); (have HOut := Lib.hid hout); (have HB5 := Lib.hid b5); clear hg hout hcs b5)
    | (refine wpList_store_new rfl 33 _ _ rfl cs rfl rfl (HLc.out.trans rfl) (by rw [HLc.out]; kernel_rfl) HOne.out ?_; intro w6 b6 oX; (have HB6 := Lib.hid b6)))
  have hB46 : Below w4.heap.size w4 w6 := bl_then HB5.out HB6.out
  have HX6 := Lib.hid (show BackAt w6 w5.heap.size a u1 u2 u3 from ⟨by rw [HCs.out]; exact oX, HOut.out.h1.below HB6.out, HOut.out.h2.below HB6.out, HOut.out.h3.below HB6.out⟩)
  have HU := Lib.hid (show (∀ g, Value.inBlock u1 = some g → w4.heap.size ≤ g) ∧ (∀ g, Value.inBlock u2 = some g → w4.heap.size ≤ g) ∧ (∀ g, Value.inBlock u3 = some g → w4.heap.size ≤ g) from ⟨HOut.out.n1, HOut.out.n2, HOut.out.n3⟩)
  have HA6 := Lib.hid (HA4.out.below hB46)
  have HO6 := Lib.hid (HO.out.below hB46)
  have HBw := Lib.hid (bl_then HB4.out hB46)
  have hX4 : w4.heap.size ≤ w5.heap.size := HB5.out.size
  have hX6 : w5.heap.size < w6.heap.size := oX.1
  have hK6 : w.heap.size < w6.heap.size := by omega
  have g6 : w6.cell? ⟨w.heap.size, 0, none⟩ = some (.int .u32 a.proc) := HA6.out.own.2.1 0
  clear b6 oX hB46 HOut HB5 HB6 HA4 HO g0 HLc HOne HB4
  generalize Value.agg cs.toArray = g21
  clear HCs
  generalize hXe : w5.heap.size = X at *
  clear hXe
  have HVi := HVw
  have hnG : ¬ ((Value.slice Ab nb cb).ownBlock = some w.heap.size) := fun h => absurd (HGlo.out _ h) (Nat.lt_irrefl _)
  have hm4 : (nb : Int) % 4 = 0 := by have := putA_mod HW.out.verf HPe.out; have := HNb.out; omega
  by_cases hz : nb = 0
  · subst hz
    have hzi : ¬ ((0 : Nat) : Int) > 0 := by omega
    have HAq := HA6
    have HXq := HX6
    have HBq := HBw
    have HOq := HO6
    go_upto_region 11 with fail
    go_cut [11, 12] from 60 (fun s11 s12 wx => ∃ p, s11 = p ∧ s12 = .int .i64 5 ∧ Hid (Only (fun i => (Value.slice Ab 0 cb).ownBlock = some i) w6 wx))
    case first =>
      rename_i J K2 hJ hK2
      refine wp_region_held_drew (S := fun wq => wq.cell? ⟨w.heap.size, 0, none⟩ = some (.int .u32 a.proc)) rfl g6 fun hS0 => ?_
      (refine wpAnyH_take (i := 0) (v := ?_) rfl (by kernel_rfl) (by kernel_rfl) (by kernel_rfl) (fun _ _ _ h => h) (Or.inl ⟨by rfl, ?_⟩) (by assumption) ?_; rotate_left; (intro wq hSw; (try dsimp only at hSw); go_simp; (try with_reducible rfl)); rotate_left; (try dsimp only [Act.put]); (try simp only [List.setIfInBounds_toArray, List.set_cons_zero, List.set_cons_succ])); (try simp only [List.getElem_toArray, List.getElem_cons_succ, List.getElem_cons_zero]); (try dsimp only [Act.put]); (try simp only [List.setIfInBounds_toArray, List.set_cons_zero, List.set_cons_succ])
      (refine wpAnyH_take (i := 1) (v := ?_) rfl (by kernel_rfl) (by kernel_rfl) (by kernel_rfl) (fun _ _ _ h => h) (Or.inl ⟨by rfl, ?_⟩) (by assumption) ?_; rotate_left; (intro wq hSw; (try dsimp only at hSw); go_simp; (try with_reducible rfl)); rotate_left; (try dsimp only [Act.put]); (try simp only [List.setIfInBounds_toArray, List.set_cons_zero, List.set_cons_succ])); (try simp only [List.getElem_toArray, List.getElem_cons_succ, List.getElem_cons_zero]); (try dsimp only [Act.put]); (try simp only [List.setIfInBounds_toArray, List.set_cons_zero, List.set_cons_succ])
      (refine wpAnyH_take (i := 2) (v := ?_) rfl (by kernel_rfl) (by kernel_rfl) (by kernel_rfl) (fun _ _ _ h => h) (Or.inl ⟨by rfl, ?_⟩) (by assumption) ?_; rotate_left; (intro wq hSw; (try dsimp only at hSw); go_simp; (try with_reducible rfl)); rotate_left; (try dsimp only [Act.put]); (try simp only [List.setIfInBounds_toArray, List.set_cons_zero, List.set_cons_succ])); (try simp only [List.getElem_toArray, List.getElem_cons_succ, List.getElem_cons_zero]); (try dsimp only [Act.put]); (try simp only [List.setIfInBounds_toArray, List.set_cons_zero, List.set_cons_succ])
      refine wpAnyH_ready (rs := [3, 9]) (by kernel_rfl) (by simp) ?_
      refine AllReadyH.cons rfl (fun K' hK => ?_) (AllReadyH.cons rfl (fun K' hK => ?_) AllReadyH.nil)
      · rw [if_pos (by rfl)]
        go_simp
        obtain ⟨wz0, hw0, bz0, rb0⟩ : ∃ wx, (w6.alloc (.cells #[.int .u8 0] 5)).drew = wx ∧ Below w6.drew.heap.size w6.drew wx ∧ Rd wx (.slice (some ⟨w6.heap.size, 0, none⟩) 1 1) [0] := ⟨_, rfl, bl_alloc (Below.refl w6.drew.heap.size w6.drew) (.cells #[.int .u8 0] 5), (rd_zero w6).below (bl_drew (Below.refl _ _))⟩
        have on0 := ((Only.refl (fun i => (Value.slice Ab 0 cb).ownBlock = some i) w6).drew).below bz0
        have gz0 : wz0.cell? ⟨w.heap.size, 0, none⟩ = some (.int .u32 a.proc) := (on0.cell (a := ⟨w.heap.size, 0, none⟩) hK6 hnG).trans g6
        have ow0 := HOq.out.drew.below bz0
        rw [hw0]
        refine hK.out _ _ gz0 fun hS => ?_
        (try simp only [List.getElem_toArray, List.getElem_cons_succ, List.getElem_cons_zero]); (try dsimp only [Act.put]); (try simp only [List.setIfInBounds_toArray, List.set_cons_zero, List.set_cons_succ])
        clear hK K' hw0
        refine wpAnyH_ready (rs := [4, 9]) (by kernel_rfl) (by simp) ?_
        refine AllReadyH.cons rfl (fun K' hK => ?_) (AllReadyH.cons rfl (fun K' hK => ?_) AllReadyH.nil)
        · rw [if_pos (by rfl)]
          refine oper_append_rd _ _ rfl rfl rfl ow0 rb0 (show bs.length + [(0 : UInt8)].length ≤ 1099511627776 by have := HN2.out; simp only [List.length_cons, List.length_nil]; omega) (Nat.zero_le _) ?_
          intro va1 wz1 oa1 ga1 _
          have on1 := on0.grown ga1 (fun i _ h => h.symm)
          have gz1 : wz1.cell? ⟨w.heap.size, 0, none⟩ = some (.int .u32 a.proc) := (on1.cell (a := ⟨w.heap.size, 0, none⟩) hK6 hnG).trans g6
          refine hK.out _ _ gz1 fun hS => ?_
          (try simp only [List.getElem_toArray, List.getElem_cons_succ, List.getElem_cons_zero]); (try dsimp only [Act.put]); (try simp only [List.setIfInBounds_toArray, List.set_cons_zero, List.set_cons_succ])
          clear hK K'
          refine wpAnyH_ready (rs := [5, 9]) (by kernel_rfl) (by simp) ?_
          refine AllReadyH.cons rfl (fun K' hK => ?_) (AllReadyH.cons rfl (fun K' hK => ?_) AllReadyH.nil)
          · rw [if_pos (by rfl)]
            go_simp
            go_at_call 13; (refine Calls.mono (Get_any HW.out.proc (oa1.rd) (show (bs ++ [0]).length ≤ 1000000000 by have := HN2.out; rw [List.length_append, List.length_singleton]; omega)) ?_); rintro e wz2 hg
            obtain ⟨rfl, bz2⟩ := hg.fails (HMore.out)
            have on2 := on1.below bz2
            have gz2 : wz2.cell? ⟨w.heap.size, 0, none⟩ = some (.int .u32 a.proc) := (on2.cell (a := ⟨w.heap.size, 0, none⟩) hK6 hnG).trans g6
            go_wp2_with fail
            refine hK.out _ _ gz2 fun hS => ?_
            (try simp only [List.getElem_toArray, List.getElem_cons_succ, List.getElem_cons_zero]); (try dsimp only [Act.put]); (try simp only [List.setIfInBounds_toArray, List.set_cons_zero, List.set_cons_succ])
            clear hK K'
            (refine wpAnyH_take (i := 6) (v := ?_) rfl (by kernel_rfl) (by kernel_rfl) (by kernel_rfl) (fun _ _ _ h => h) (Or.inl ⟨by rfl, ?_⟩) (by assumption) ?_; rotate_left; (intro wq hSw; (try dsimp only at hSw); go_simp; (try with_reducible rfl)); rotate_left; (try dsimp only [Act.put]); (try simp only [List.setIfInBounds_toArray, List.set_cons_zero, List.set_cons_succ])); (try simp only [List.getElem_toArray, List.getElem_cons_succ, List.getElem_cons_zero]); (try dsimp only [Act.put]); (try simp only [List.setIfInBounds_toArray, List.set_cons_zero, List.set_cons_succ])
            (refine wpAnyH_take (i := 7) (v := ?_) rfl (by kernel_rfl) (by kernel_rfl) (by kernel_rfl) (fun _ _ _ h => h) (Or.inl ⟨by rfl, ?_⟩) (by assumption) ?_; rotate_left; (intro wq hSw; (try dsimp only at hSw); go_simp; (try with_reducible rfl)); rotate_left; (try dsimp only [Act.put]); (try simp only [List.setIfInBounds_toArray, List.set_cons_zero, List.set_cons_succ])); (try simp only [List.getElem_toArray, List.getElem_cons_succ, List.getElem_cons_zero]); (try dsimp only [Act.put]); (try simp only [List.setIfInBounds_toArray, List.set_cons_zero, List.set_cons_succ])
            (refine wpAnyH_take (i := 8) (v := ?_) rfl (by kernel_rfl) (by kernel_rfl) (by kernel_rfl) (fun _ _ _ h => h) (Or.inl ⟨by rfl, ?_⟩) (by assumption) ?_; rotate_left; (intro wq hSw; (try dsimp only at hSw); go_simp; (try with_reducible rfl)); rotate_left; (try dsimp only [Act.put]); (try simp only [List.setIfInBounds_toArray, List.set_cons_zero, List.set_cons_succ])); (try simp only [List.getElem_toArray, List.getElem_cons_succ, List.getElem_cons_zero]); (try dsimp only [Act.put]); (try simp only [List.setIfInBounds_toArray, List.set_cons_zero, List.set_cons_succ])
            refine wpAnyH_ready (rs := [9]) (by kernel_rfl) (by simp) ?_
            refine AllReadyH.cons rfl (fun K' hK => ?_) AllReadyH.nil
            rw [if_pos (by rfl)]
            go_simp
            obtain ⟨wz3, hw3, oX3, bz3⟩ : ∃ wx, wz2.alloc (.cells arZ.toArray 33) = wx ∧ OwnL wx wz2.heap.size arZ ∧ Below wz2.heap.size wz2 wx := ⟨_, rfl, OwnL.made wz2 arZ _, bl_alloc (Below.refl wz2.heap.size wz2) (.cells arZ.toArray 33)⟩
            have hv3 : wz2.alloc (.cells #[.int .u32 0, .slice none 0 0, .string ⟨#[]⟩, .slice none 0 0, .string ⟨#[]⟩, .bool false, .int .u32 0, .bool false, .int .u32 0, .bool false, .int .u32 0, .bool false, .int .u64 0, .int .u32 0, .int .u32 0, .int .u32 0, .int .u32 0, .int .u32 0, .int .u32 0, .bool false, .int .u32 0, .int .u32 0, .int .u32 0, .int .u64 0, .int .u32 0, .int .u32 0, .int .u32 0, .slice none 0 0, .string ⟨#[]⟩, .int .u32 0, .int .u32 0, .int .u8 0, .int .u8 0, .int .u8 0, .int .u8 0, .int .u8 0, .int .u8 0, .int .u8 0, .int .u8 0, .int .u64 0] 33) = wz3 := hw3
            have on3 := on2.below bz3
            have gz3 : wz3.cell? ⟨w.heap.size, 0, none⟩ = some (.int .u32 a.proc) := (on3.cell (a := ⟨w.heap.size, 0, none⟩) hK6 hnG).trans g6
            have hx3 : w6.heap.size ≤ wz2.heap.size := on2.size
            rw [hv3]
            refine hK.out _ _ gz3 fun hS => ?_
            (try simp only [List.getElem_toArray, List.getElem_cons_succ, List.getElem_cons_zero]); (try dsimp only [Act.put]); (try simp only [List.setIfInBounds_toArray, List.set_cons_zero, List.set_cons_succ])
            clear hK K' hw3 hv3
            refine wpAnyH_ready (rs := [10]) (by kernel_rfl) (by simp) ?_
            refine AllReadyH.cons rfl (fun K' hK => ?_) AllReadyH.nil
            rw [if_pos (by rfl)]
            refine wp_store_mid _ _ _ rfl (wz2.heap.size) 0 arZ.toArray rfl rfl oX3.there (by kernel_rfl) (all_oneCell_toArray arZ_one) ?_
            have on4 : Only (fun i => (Value.slice Ab 0 cb).ownBlock = some i) w6 (wz3.setCells (wz2.heap.size) 0 arZ) := on3.then_ (only_setCells (o := 0) (vs := arZ)) (fun i hi h => by have := hx3; omega)
            have gz4 : (wz3.setCells (wz2.heap.size) 0 arZ).cell? ⟨w.heap.size, 0, none⟩ = some (.int .u32 a.proc) := (on4.cell (a := ⟨w.heap.size, 0, none⟩) hK6 hnG).trans g6
            refine hK.out _ _ gz4 fun hS => ?_
            (try simp only [List.getElem_toArray, List.getElem_cons_succ, List.getElem_cons_zero]); (try dsimp only [Act.put]); (try simp only [List.setIfInBounds_toArray, List.set_cons_zero, List.set_cons_succ])
            clear hK K'
            (refine wpAnyH_take (i := 11) (v := ?_) rfl (by kernel_rfl) (by kernel_rfl) (by kernel_rfl) (fun _ _ _ h => h) (Or.inl ⟨by rfl, ?_⟩) (by assumption) ?_; rotate_left; (intro wq hSw; (try dsimp only at hSw); go_simp; (try with_reducible rfl)); rotate_left; (try dsimp only [Act.put]); (try simp only [List.setIfInBounds_toArray, List.set_cons_zero, List.set_cons_succ])); (try simp only [List.getElem_toArray, List.getElem_cons_succ, List.getElem_cons_zero]); (try dsimp only [Act.put]); (try simp only [List.setIfInBounds_toArray, List.set_cons_zero, List.set_cons_succ])
            refine wpAnyH_done (by kernel_rfl) ?_ _
            (first | refine hK2 _ _ (Met.intro ?_) | refine Met.intro ?_ | skip)
            refine hJ _ _ ?_
            (repeat apply Exists.intro)
            refine ⟨?_, rfl⟩
            exact ⟨_, rfl, rfl, Lib.hid on4⟩
          · rw [if_pos (by rfl)]
            go_simp
            obtain ⟨wz5, hw5, oX5, bz5⟩ : ∃ wx, wz1.alloc (.cells arZ.toArray 33) = wx ∧ OwnL wx wz1.heap.size arZ ∧ Below wz1.heap.size wz1 wx := ⟨_, rfl, OwnL.made wz1 arZ _, bl_alloc (Below.refl wz1.heap.size wz1) (.cells arZ.toArray 33)⟩
            have hv5 : wz1.alloc (.cells #[.int .u32 0, .slice none 0 0, .string ⟨#[]⟩, .slice none 0 0, .string ⟨#[]⟩, .bool false, .int .u32 0, .bool false, .int .u32 0, .bool false, .int .u32 0, .bool false, .int .u64 0, .int .u32 0, .int .u32 0, .int .u32 0, .int .u32 0, .int .u32 0, .int .u32 0, .bool false, .int .u32 0, .int .u32 0, .int .u32 0, .int .u64 0, .int .u32 0, .int .u32 0, .int .u32 0, .slice none 0 0, .string ⟨#[]⟩, .int .u32 0, .int .u32 0, .int .u8 0, .int .u8 0, .int .u8 0, .int .u8 0, .int .u8 0, .int .u8 0, .int .u8 0, .int .u8 0, .int .u64 0] 33) = wz5 := hw5
            have on5 := on1.below bz5
            have gz5 : wz5.cell? ⟨w.heap.size, 0, none⟩ = some (.int .u32 a.proc) := (on5.cell (a := ⟨w.heap.size, 0, none⟩) hK6 hnG).trans g6
            have hx5 : w6.heap.size ≤ wz1.heap.size := on1.size
            rw [hv5]
            refine hK.out _ _ gz5 fun hS => ?_
            (try simp only [List.getElem_toArray, List.getElem_cons_succ, List.getElem_cons_zero]); (try dsimp only [Act.put]); (try simp only [List.setIfInBounds_toArray, List.set_cons_zero, List.set_cons_succ])
            clear hK K' hw5 hv5
            have rd5 := Rd.below (oa1.rd) bz5
            refine wpAnyH_ready (rs := [5]) (by kernel_rfl) (by simp) ?_
            refine AllReadyH.cons rfl (fun K' hK => ?_) AllReadyH.nil
            rw [if_pos (by rfl)]
            go_simp
            go_at_call 13; (refine Calls.mono (Get_any HW.out.proc (rd5) (show (bs ++ [0]).length ≤ 1000000000 by have := HN2.out; rw [List.length_append, List.length_singleton]; omega)) ?_); rintro e wz6 hg
            obtain ⟨rfl, bz6⟩ := hg.fails (HMore.out)
            have on6 := on5.below bz6
            have oX6 := oX5.trk bz6
            have gz6 : wz6.cell? ⟨w.heap.size, 0, none⟩ = some (.int .u32 a.proc) := (on6.cell (a := ⟨w.heap.size, 0, none⟩) hK6 hnG).trans g6
            go_wp2_with fail
            refine hK.out _ _ gz6 fun hS => ?_
            (try simp only [List.getElem_toArray, List.getElem_cons_succ, List.getElem_cons_zero]); (try dsimp only [Act.put]); (try simp only [List.setIfInBounds_toArray, List.set_cons_zero, List.set_cons_succ])
            clear hK K'
            (refine wpAnyH_take (i := 6) (v := ?_) rfl (by kernel_rfl) (by kernel_rfl) (by kernel_rfl) (fun _ _ _ h => h) (Or.inl ⟨by rfl, ?_⟩) (by assumption) ?_; rotate_left; (intro wq hSw; (try dsimp only at hSw); go_simp; (try with_reducible rfl)); rotate_left; (try dsimp only [Act.put]); (try simp only [List.setIfInBounds_toArray, List.set_cons_zero, List.set_cons_succ])); (try simp only [List.getElem_toArray, List.getElem_cons_succ, List.getElem_cons_zero]); (try dsimp only [Act.put]); (try simp only [List.setIfInBounds_toArray, List.set_cons_zero, List.set_cons_succ])
            (refine wpAnyH_take (i := 7) (v := ?_) rfl (by kernel_rfl) (by kernel_rfl) (by kernel_rfl) (fun _ _ _ h => h) (Or.inl ⟨by rfl, ?_⟩) (by assumption) ?_; rotate_left; (intro wq hSw; (try dsimp only at hSw); go_simp; (try with_reducible rfl)); rotate_left; (try dsimp only [Act.put]); (try simp only [List.setIfInBounds_toArray, List.set_cons_zero, List.set_cons_succ])); (try simp only [List.getElem_toArray, List.getElem_cons_succ, List.getElem_cons_zero]); (try dsimp only [Act.put]); (try simp only [List.setIfInBounds_toArray, List.set_cons_zero, List.set_cons_succ])
            (refine wpAnyH_take (i := 8) (v := ?_) rfl (by kernel_rfl) (by kernel_rfl) (by kernel_rfl) (fun _ _ _ h => h) (Or.inl ⟨by rfl, ?_⟩) (by assumption) ?_; rotate_left; (intro wq hSw; (try dsimp only at hSw); go_simp; (try with_reducible rfl)); rotate_left; (try dsimp only [Act.put]); (try simp only [List.setIfInBounds_toArray, List.set_cons_zero, List.set_cons_succ])); (try simp only [List.getElem_toArray, List.getElem_cons_succ, List.getElem_cons_zero]); (try dsimp only [Act.put]); (try simp only [List.setIfInBounds_toArray, List.set_cons_zero, List.set_cons_succ])
            refine wpAnyH_ready (rs := [10]) (by kernel_rfl) (by simp) ?_
            refine AllReadyH.cons rfl (fun K' hK => ?_) AllReadyH.nil
            rw [if_pos (by rfl)]
            refine wp_store_mid _ _ _ rfl (wz1.heap.size) 0 arZ.toArray rfl rfl oX6.there (by kernel_rfl) (all_oneCell_toArray arZ_one) ?_
            have on7 : Only (fun i => (Value.slice Ab 0 cb).ownBlock = some i) w6 (wz6.setCells (wz1.heap.size) 0 arZ) := on6.then_ (only_setCells (o := 0) (vs := arZ)) (fun i hi h => by have := hx5; omega)
            have gz7 : (wz6.setCells (wz1.heap.size) 0 arZ).cell? ⟨w.heap.size, 0, none⟩ = some (.int .u32 a.proc) := (on7.cell (a := ⟨w.heap.size, 0, none⟩) hK6 hnG).trans g6
            refine hK.out _ _ gz7 fun hS => ?_
            (try simp only [List.getElem_toArray, List.getElem_cons_succ, List.getElem_cons_zero]); (try dsimp only [Act.put]); (try simp only [List.setIfInBounds_toArray, List.set_cons_zero, List.set_cons_succ])
            clear hK K'
            (refine wpAnyH_take (i := 11) (v := ?_) rfl (by kernel_rfl) (by kernel_rfl) (by kernel_rfl) (fun _ _ _ h => h) (Or.inl ⟨by rfl, ?_⟩) (by assumption) ?_; rotate_left; (intro wq hSw; (try dsimp only at hSw); go_simp; (try with_reducible rfl)); rotate_left; (try dsimp only [Act.put]); (try simp only [List.setIfInBounds_toArray, List.set_cons_zero, List.set_cons_succ])); (try simp only [List.getElem_toArray, List.getElem_cons_succ, List.getElem_cons_zero]); (try dsimp only [Act.put]); (try simp only [List.setIfInBounds_toArray, List.set_cons_zero, List.set_cons_succ])
            refine wpAnyH_done (by kernel_rfl) ?_ _
            (first | refine hK2 _ _ (Met.intro ?_) | refine Met.intro ?_ | skip)
            refine hJ _ _ ?_
            (repeat apply Exists.intro)
            refine ⟨?_, rfl⟩
            exact ⟨_, rfl, rfl, Lib.hid on7⟩
        · rw [if_pos (by rfl)]
          go_simp
          obtain ⟨wz8, hw8, oX8, bz8⟩ : ∃ wx, wz0.alloc (.cells arZ.toArray 33) = wx ∧ OwnL wx wz0.heap.size arZ ∧ Below wz0.heap.size wz0 wx := ⟨_, rfl, OwnL.made wz0 arZ _, bl_alloc (Below.refl wz0.heap.size wz0) (.cells arZ.toArray 33)⟩
          have hv8 : wz0.alloc (.cells #[.int .u32 0, .slice none 0 0, .string ⟨#[]⟩, .slice none 0 0, .string ⟨#[]⟩, .bool false, .int .u32 0, .bool false, .int .u32 0, .bool false, .int .u32 0, .bool false, .int .u64 0, .int .u32 0, .int .u32 0, .int .u32 0, .int .u32 0, .int .u32 0, .int .u32 0, .bool false, .int .u32 0, .int .u32 0, .int .u32 0, .int .u64 0, .int .u32 0, .int .u32 0, .int .u32 0, .slice none 0 0, .string ⟨#[]⟩, .int .u32 0, .int .u32 0, .int .u8 0, .int .u8 0, .int .u8 0, .int .u8 0, .int .u8 0, .int .u8 0, .int .u8 0, .int .u8 0, .int .u64 0] 33) = wz8 := hw8
          have on8 := on0.below bz8
          have gz8 : wz8.cell? ⟨w.heap.size, 0, none⟩ = some (.int .u32 a.proc) := (on8.cell (a := ⟨w.heap.size, 0, none⟩) hK6 hnG).trans g6
          have hx8 : w6.heap.size ≤ wz0.heap.size := on0.size
          rw [hv8]
          refine hK.out _ _ gz8 fun hS => ?_
          (try simp only [List.getElem_toArray, List.getElem_cons_succ, List.getElem_cons_zero]); (try dsimp only [Act.put]); (try simp only [List.setIfInBounds_toArray, List.set_cons_zero, List.set_cons_succ])
          clear hK K' hw8 hv8
          have ow8 := ow0.below bz8
          have rb8 := Rd.below rb0 bz8
          refine wpAnyH_ready (rs := [4]) (by kernel_rfl) (by simp) ?_
          refine AllReadyH.cons rfl (fun K' hK => ?_) AllReadyH.nil
          rw [if_pos (by rfl)]
          refine oper_append_rd _ _ rfl rfl rfl ow8 rb8 (show bs.length + [(0 : UInt8)].length ≤ 1099511627776 by have := HN2.out; simp only [List.length_cons, List.length_nil]; omega) (Nat.zero_le _) ?_
          intro va9 wz9 oa9 ga9 _
          have on9 := on8.grown ga9 (fun i _ h => h.symm)
          have gz9 : wz9.cell? ⟨w.heap.size, 0, none⟩ = some (.int .u32 a.proc) := (on9.cell (a := ⟨w.heap.size, 0, none⟩) hK6 hnG).trans g6
          have oX9 := oX8.only ((Only.refl (fun i => (Value.slice Ab 0 cb).ownBlock = some i) _).grown ga9 (fun i _ h => h.symm)) (fun h => by have := HGhi.out _ h; have := hx8; omega)
          refine hK.out _ _ gz9 fun hS => ?_
          (try simp only [List.getElem_toArray, List.getElem_cons_succ, List.getElem_cons_zero]); (try dsimp only [Act.put]); (try simp only [List.setIfInBounds_toArray, List.set_cons_zero, List.set_cons_succ])
          clear hK K'
          refine wpAnyH_ready (rs := [5]) (by kernel_rfl) (by simp) ?_
          refine AllReadyH.cons rfl (fun K' hK => ?_) AllReadyH.nil
          rw [if_pos (by rfl)]
          go_simp
          go_at_call 13; (refine Calls.mono (Get_any HW.out.proc (oa9.rd) (show (bs ++ [0]).length ≤ 1000000000 by have := HN2.out; rw [List.length_append, List.length_singleton]; omega)) ?_); rintro e wz10 hg
          obtain ⟨rfl, bz10⟩ := hg.fails (HMore.out)
          have on10 := on9.below bz10
          have oX10 := oX9.trk bz10
          have gz10 : wz10.cell? ⟨w.heap.size, 0, none⟩ = some (.int .u32 a.proc) := (on10.cell (a := ⟨w.heap.size, 0, none⟩) hK6 hnG).trans g6
          go_wp2_with fail
          refine hK.out _ _ gz10 fun hS => ?_
          (try simp only [List.getElem_toArray, List.getElem_cons_succ, List.getElem_cons_zero]); (try dsimp only [Act.put]); (try simp only [List.setIfInBounds_toArray, List.set_cons_zero, List.set_cons_succ])
          clear hK K'
          (refine wpAnyH_take (i := 6) (v := ?_) rfl (by kernel_rfl) (by kernel_rfl) (by kernel_rfl) (fun _ _ _ h => h) (Or.inl ⟨by rfl, ?_⟩) (by assumption) ?_; rotate_left; (intro wq hSw; (try dsimp only at hSw); go_simp; (try with_reducible rfl)); rotate_left; (try dsimp only [Act.put]); (try simp only [List.setIfInBounds_toArray, List.set_cons_zero, List.set_cons_succ])); (try simp only [List.getElem_toArray, List.getElem_cons_succ, List.getElem_cons_zero]); (try dsimp only [Act.put]); (try simp only [List.setIfInBounds_toArray, List.set_cons_zero, List.set_cons_succ])
          (refine wpAnyH_take (i := 7) (v := ?_) rfl (by kernel_rfl) (by kernel_rfl) (by kernel_rfl) (fun _ _ _ h => h) (Or.inl ⟨by rfl, ?_⟩) (by assumption) ?_; rotate_left; (intro wq hSw; (try dsimp only at hSw); go_simp; (try with_reducible rfl)); rotate_left; (try dsimp only [Act.put]); (try simp only [List.setIfInBounds_toArray, List.set_cons_zero, List.set_cons_succ])); (try simp only [List.getElem_toArray, List.getElem_cons_succ, List.getElem_cons_zero]); (try dsimp only [Act.put]); (try simp only [List.setIfInBounds_toArray, List.set_cons_zero, List.set_cons_succ])
          (refine wpAnyH_take (i := 8) (v := ?_) rfl (by kernel_rfl) (by kernel_rfl) (by kernel_rfl) (fun _ _ _ h => h) (Or.inl ⟨by rfl, ?_⟩) (by assumption) ?_; rotate_left; (intro wq hSw; (try dsimp only at hSw); go_simp; (try with_reducible rfl)); rotate_left; (try dsimp only [Act.put]); (try simp only [List.setIfInBounds_toArray, List.set_cons_zero, List.set_cons_succ])); (try simp only [List.getElem_toArray, List.getElem_cons_succ, List.getElem_cons_zero]); (try dsimp only [Act.put]); (try simp only [List.setIfInBounds_toArray, List.set_cons_zero, List.set_cons_succ])
          refine wpAnyH_ready (rs := [10]) (by kernel_rfl) (by simp) ?_
          refine AllReadyH.cons rfl (fun K' hK => ?_) AllReadyH.nil
          rw [if_pos (by rfl)]
          refine wp_store_mid _ _ _ rfl (wz0.heap.size) 0 arZ.toArray rfl rfl oX10.there (by kernel_rfl) (all_oneCell_toArray arZ_one) ?_
          have on11 : Only (fun i => (Value.slice Ab 0 cb).ownBlock = some i) w6 (wz10.setCells (wz0.heap.size) 0 arZ) := on10.then_ (only_setCells (o := 0) (vs := arZ)) (fun i hi h => by have := hx8; omega)
          have gz11 : (wz10.setCells (wz0.heap.size) 0 arZ).cell? ⟨w.heap.size, 0, none⟩ = some (.int .u32 a.proc) := (on11.cell (a := ⟨w.heap.size, 0, none⟩) hK6 hnG).trans g6
          refine hK.out _ _ gz11 fun hS => ?_
          (try simp only [List.getElem_toArray, List.getElem_cons_succ, List.getElem_cons_zero]); (try dsimp only [Act.put]); (try simp only [List.setIfInBounds_toArray, List.set_cons_zero, List.set_cons_succ])
          clear hK K'
          (refine wpAnyH_take (i := 11) (v := ?_) rfl (by kernel_rfl) (by kernel_rfl) (by kernel_rfl) (fun _ _ _ h => h) (Or.inl ⟨by rfl, ?_⟩) (by assumption) ?_; rotate_left; (intro wq hSw; (try dsimp only at hSw); go_simp; (try with_reducible rfl)); rotate_left; (try dsimp only [Act.put]); (try simp only [List.setIfInBounds_toArray, List.set_cons_zero, List.set_cons_succ])); (try simp only [List.getElem_toArray, List.getElem_cons_succ, List.getElem_cons_zero]); (try dsimp only [Act.put]); (try simp only [List.setIfInBounds_toArray, List.set_cons_zero, List.set_cons_succ])
          refine wpAnyH_done (by kernel_rfl) ?_ _
          (first | refine hK2 _ _ (Met.intro ?_) | refine Met.intro ?_ | skip)
          refine hJ _ _ ?_
          (repeat apply Exists.intro)
          refine ⟨?_, rfl⟩
          exact ⟨_, rfl, rfl, Lib.hid on11⟩
      · rw [if_pos (by rfl)]
        go_simp
        obtain ⟨wz12, hw12, oX12, bz12⟩ : ∃ wx, (w6.alloc (.cells arZ.toArray 33)).drew = wx ∧ OwnL wx w6.heap.size arZ ∧ Below w6.drew.heap.size w6.drew wx := ⟨_, rfl, (OwnL.made w6 arZ _).drew, bl_alloc (Below.refl w6.drew.heap.size w6.drew) (.cells arZ.toArray 33)⟩
        have hv12 : (w6.alloc (.cells #[.int .u32 0, .slice none 0 0, .string ⟨#[]⟩, .slice none 0 0, .string ⟨#[]⟩, .bool false, .int .u32 0, .bool false, .int .u32 0, .bool false, .int .u32 0, .bool false, .int .u64 0, .int .u32 0, .int .u32 0, .int .u32 0, .int .u32 0, .int .u32 0, .int .u32 0, .bool false, .int .u32 0, .int .u32 0, .int .u32 0, .int .u64 0, .int .u32 0, .int .u32 0, .int .u32 0, .slice none 0 0, .string ⟨#[]⟩, .int .u32 0, .int .u32 0, .int .u8 0, .int .u8 0, .int .u8 0, .int .u8 0, .int .u8 0, .int .u8 0, .int .u8 0, .int .u8 0, .int .u64 0] 33)).drew = wz12 := hw12
        have on12 := ((Only.refl (fun i => (Value.slice Ab 0 cb).ownBlock = some i) w6).drew).below bz12
        have gz12 : wz12.cell? ⟨w.heap.size, 0, none⟩ = some (.int .u32 a.proc) := (on12.cell (a := ⟨w.heap.size, 0, none⟩) hK6 hnG).trans g6
        have hx12 : w6.heap.size ≤ w6.heap.size := ((Only.refl (fun i => (Value.slice Ab 0 cb).ownBlock = some i) w6).drew).size
        rw [hv12]
        refine hK.out _ _ gz12 fun hS => ?_
        (try simp only [List.getElem_toArray, List.getElem_cons_succ, List.getElem_cons_zero]); (try dsimp only [Act.put]); (try simp only [List.setIfInBounds_toArray, List.set_cons_zero, List.set_cons_succ])
        clear hK K' hw12 hv12
        have ow12 := HOq.out.drew.below bz12
        refine wpAnyH_ready (rs := [3]) (by kernel_rfl) (by simp) ?_
        refine AllReadyH.cons rfl (fun K' hK => ?_) AllReadyH.nil
        rw [if_pos (by rfl)]
        go_simp
        obtain ⟨wz13, hw13, bz13, rb13⟩ : ∃ wx, wz12.alloc (.cells #[.int .u8 0] 5) = wx ∧ Below wz12.heap.size wz12 wx ∧ Rd wx (.slice (some ⟨wz12.heap.size, 0, none⟩) 1 1) [0] := ⟨_, rfl, bl_alloc (Below.refl wz12.heap.size wz12) (.cells #[.int .u8 0] 5), rd_zero wz12⟩
        have on13 := on12.below bz13
        have gz13 : wz13.cell? ⟨w.heap.size, 0, none⟩ = some (.int .u32 a.proc) := (on13.cell (a := ⟨w.heap.size, 0, none⟩) hK6 hnG).trans g6
        have ow13 := ow12.below bz13
        have oX13 := oX12.trk bz13
        rw [hw13]
        refine hK.out _ _ gz13 fun hS => ?_
        (try simp only [List.getElem_toArray, List.getElem_cons_succ, List.getElem_cons_zero]); (try dsimp only [Act.put]); (try simp only [List.setIfInBounds_toArray, List.set_cons_zero, List.set_cons_succ])
        clear hK K' hw13
        refine wpAnyH_ready (rs := [4]) (by kernel_rfl) (by simp) ?_
        refine AllReadyH.cons rfl (fun K' hK => ?_) AllReadyH.nil
        rw [if_pos (by rfl)]
        refine oper_append_rd _ _ rfl rfl rfl ow13 rb13 (show bs.length + [(0 : UInt8)].length ≤ 1099511627776 by have := HN2.out; simp only [List.length_cons, List.length_nil]; omega) (Nat.zero_le _) ?_
        intro va14 wz14 oa14 ga14 _
        have on14 := on13.grown ga14 (fun i _ h => h.symm)
        have gz14 : wz14.cell? ⟨w.heap.size, 0, none⟩ = some (.int .u32 a.proc) := (on14.cell (a := ⟨w.heap.size, 0, none⟩) hK6 hnG).trans g6
        have oX14 := oX13.only ((Only.refl (fun i => (Value.slice Ab 0 cb).ownBlock = some i) _).grown ga14 (fun i _ h => h.symm)) (fun h => by have := HGhi.out _ h; have := hx12; omega)
        refine hK.out _ _ gz14 fun hS => ?_
        (try simp only [List.getElem_toArray, List.getElem_cons_succ, List.getElem_cons_zero]); (try dsimp only [Act.put]); (try simp only [List.setIfInBounds_toArray, List.set_cons_zero, List.set_cons_succ])
        clear hK K'
        refine wpAnyH_ready (rs := [5]) (by kernel_rfl) (by simp) ?_
        refine AllReadyH.cons rfl (fun K' hK => ?_) AllReadyH.nil
        rw [if_pos (by rfl)]
        go_simp
        go_at_call 13; (refine Calls.mono (Get_any HW.out.proc (oa14.rd) (show (bs ++ [0]).length ≤ 1000000000 by have := HN2.out; rw [List.length_append, List.length_singleton]; omega)) ?_); rintro e wz15 hg
        obtain ⟨rfl, bz15⟩ := hg.fails (HMore.out)
        have on15 := on14.below bz15
        have oX15 := oX14.trk bz15
        have gz15 : wz15.cell? ⟨w.heap.size, 0, none⟩ = some (.int .u32 a.proc) := (on15.cell (a := ⟨w.heap.size, 0, none⟩) hK6 hnG).trans g6
        go_wp2_with fail
        refine hK.out _ _ gz15 fun hS => ?_
        (try simp only [List.getElem_toArray, List.getElem_cons_succ, List.getElem_cons_zero]); (try dsimp only [Act.put]); (try simp only [List.setIfInBounds_toArray, List.set_cons_zero, List.set_cons_succ])
        clear hK K'
        (refine wpAnyH_take (i := 6) (v := ?_) rfl (by kernel_rfl) (by kernel_rfl) (by kernel_rfl) (fun _ _ _ h => h) (Or.inl ⟨by rfl, ?_⟩) (by assumption) ?_; rotate_left; (intro wq hSw; (try dsimp only at hSw); go_simp; (try with_reducible rfl)); rotate_left; (try dsimp only [Act.put]); (try simp only [List.setIfInBounds_toArray, List.set_cons_zero, List.set_cons_succ])); (try simp only [List.getElem_toArray, List.getElem_cons_succ, List.getElem_cons_zero]); (try dsimp only [Act.put]); (try simp only [List.setIfInBounds_toArray, List.set_cons_zero, List.set_cons_succ])
        (refine wpAnyH_take (i := 7) (v := ?_) rfl (by kernel_rfl) (by kernel_rfl) (by kernel_rfl) (fun _ _ _ h => h) (Or.inl ⟨by rfl, ?_⟩) (by assumption) ?_; rotate_left; (intro wq hSw; (try dsimp only at hSw); go_simp; (try with_reducible rfl)); rotate_left; (try dsimp only [Act.put]); (try simp only [List.setIfInBounds_toArray, List.set_cons_zero, List.set_cons_succ])); (try simp only [List.getElem_toArray, List.getElem_cons_succ, List.getElem_cons_zero]); (try dsimp only [Act.put]); (try simp only [List.setIfInBounds_toArray, List.set_cons_zero, List.set_cons_succ])
        (refine wpAnyH_take (i := 8) (v := ?_) rfl (by kernel_rfl) (by kernel_rfl) (by kernel_rfl) (fun _ _ _ h => h) (Or.inl ⟨by rfl, ?_⟩) (by assumption) ?_; rotate_left; (intro wq hSw; (try dsimp only at hSw); go_simp; (try with_reducible rfl)); rotate_left; (try dsimp only [Act.put]); (try simp only [List.setIfInBounds_toArray, List.set_cons_zero, List.set_cons_succ])); (try simp only [List.getElem_toArray, List.getElem_cons_succ, List.getElem_cons_zero]); (try dsimp only [Act.put]); (try simp only [List.setIfInBounds_toArray, List.set_cons_zero, List.set_cons_succ])
        refine wpAnyH_ready (rs := [10]) (by kernel_rfl) (by simp) ?_
        refine AllReadyH.cons rfl (fun K' hK => ?_) AllReadyH.nil
        rw [if_pos (by rfl)]
        refine wp_store_mid _ _ _ rfl (w6.heap.size) 0 arZ.toArray rfl rfl oX15.there (by kernel_rfl) (all_oneCell_toArray arZ_one) ?_
        have on16 : Only (fun i => (Value.slice Ab 0 cb).ownBlock = some i) w6 (wz15.setCells (w6.heap.size) 0 arZ) := on15.then_ (only_setCells (o := 0) (vs := arZ)) (fun i hi h => by have := hx12; omega)
        have gz16 : (wz15.setCells (w6.heap.size) 0 arZ).cell? ⟨w.heap.size, 0, none⟩ = some (.int .u32 a.proc) := (on16.cell (a := ⟨w.heap.size, 0, none⟩) hK6 hnG).trans g6
        refine hK.out _ _ gz16 fun hS => ?_
        (try simp only [List.getElem_toArray, List.getElem_cons_succ, List.getElem_cons_zero]); (try dsimp only [Act.put]); (try simp only [List.setIfInBounds_toArray, List.set_cons_zero, List.set_cons_succ])
        clear hK K'
        (refine wpAnyH_take (i := 11) (v := ?_) rfl (by kernel_rfl) (by kernel_rfl) (by kernel_rfl) (fun _ _ _ h => h) (Or.inl ⟨by rfl, ?_⟩) (by assumption) ?_; rotate_left; (intro wq hSw; (try dsimp only at hSw); go_simp; (try with_reducible rfl)); rotate_left; (try dsimp only [Act.put]); (try simp only [List.setIfInBounds_toArray, List.set_cons_zero, List.set_cons_succ])); (try simp only [List.getElem_toArray, List.getElem_cons_succ, List.getElem_cons_zero]); (try dsimp only [Act.put]); (try simp only [List.setIfInBounds_toArray, List.set_cons_zero, List.set_cons_succ])
        refine wpAnyH_done (by kernel_rfl) ?_ _
        (first | refine hK2 _ _ (Met.intro ?_) | refine Met.intro ?_ | skip)
        refine hJ _ _ ?_
        (repeat apply Exists.intro)
        refine ⟨?_, rfl⟩
        exact ⟨_, rfl, rfl, Lib.hid on16⟩
    case rest =>
    obtain ⟨p11, rfl, rfl, HOn⟩ := hcut
    have HAz := Lib.hid (HAq.out.only HOn.out hnG (fun g hg h => by have := HGlo.out _ h; have := HVi.out.1 _ hg; omega) (fun g hg h => by have := HGlo.out _ h; have := HVi.out.2.1 _ hg; omega) (fun g hg h => by have := HGlo.out _ h; have := HVi.out.2.2 _ hg; omega))
    have HXz := Lib.hid (HXq.out.only HOn.out (fun h => by have := HGhi.out _ h; omega) (fun g hg h => by have := HGhi.out _ h; have := HU.out.1 _ hg; omega) (fun g hg h => by have := HGhi.out _ h; have := HU.out.2.1 _ hg; omega) (fun g hg h => by have := HGhi.out _ h; have := HU.out.2.2 _ hg; omega))
    have HLx := Lib.hid (show (arC u1 u2 u3 a).length = 40 from arC_len HW.out.verf)
    have HBz := Lib.hid (only_below HBq.out HOn.out (fun i h => by have := HGlo.out _ h; omega))
    go_wp2_with (first
      | (refine wpList_load_on (by kernel_rfl) 33 _ rfl X 0 rfl (arC u1 u2 u3 a) _ HXz.out.own.range Tryz.underlying33 rfl (by rw [HLx.out]; kernel_rfl) ?_)
      | (refine wpList_load_on (by kernel_rfl) 33 _ rfl w.heap.size 0 rfl (arC v1 v2 v3 a) _ HAz.out.own.range Tryz.underlying33 rfl (by rw [HL40.out]; kernel_rfl) ?_)
      | (go_at_call 14; (refine Calls.mono (SameArgs_self HW.out HXz.out.h1 HXz.out.h2 HXz.out.h3 HAz.out.h1 HAz.out.h2 HAz.out.h3) ?_); rintro e wy ⟨rfl, by_⟩; (have HBy := Lib.hid (bl_then HBz.out by_)); clear by_))
    go_ret
    exact ⟨rfl, HBy.out⟩
  · have hzi : (nb : Int) > 0 := by omega
    have hzn : ¬ ((nb : Int) = 0) := by omega
    have hzb : ((nb : Int) == 0) = false := beq_eq_false_iff_ne.2 hzn
    obtain ⟨j, hj, hjn⟩ : ∃ j : Nat, (c : Int).tmod (nb : Int) = (j : Int) ∧ j < nb := ⟨c % nb, by rw [Int.tmod_eq_emod_of_nonneg (by omega)]; omega, Nat.mod_lt _ (by omega)⟩
    have hwr : IntKind.i64.wrap (c : Int) = (c : Int) := IntWalk.i64_in _ (by have := HC.out; omega)
    have hjc : (j : Int) ≤ (cb : Int) := by have := HBc.out; omega
    have hjb : j < bs.length := by rw [HNb.out]; exact hjn
    have HRt := Lib.hid (Rd.take HO6.out.rd HNb.out hjn)
    go_upto_region 8 with fail
    go_cut [9, 10] from 44 (fun s9 s10 wx => ∃ p, s9 = p ∧ s10 = .int .i64 4 ∧ Hid (Only (fun _ => False) w6 wx))
    case first =>
      rename_i J K2 hJ hK2
      refine wp_region_held_drew (S := fun wq => wq.cell? ⟨w.heap.size, 0, none⟩ = some (.int .u32 a.proc)) rfl g6 fun hS0 => ?_
      (refine wpAnyH_take (i := 0) (v := ?_) rfl (by kernel_rfl) (by kernel_rfl) (by kernel_rfl) (fun _ _ _ h => h) (Or.inl ⟨by rfl, ?_⟩) (by assumption) ?_; rotate_left; (intro wq hSw; (try dsimp only at hSw); go_simp; (try with_reducible rfl)); rotate_left; (try dsimp only [Act.put]); (try simp only [List.setIfInBounds_toArray, List.set_cons_zero, List.set_cons_succ])); (try simp only [List.getElem_toArray, List.getElem_cons_succ, List.getElem_cons_zero]); (try dsimp only [Act.put]); (try simp only [List.setIfInBounds_toArray, List.set_cons_zero, List.set_cons_succ])
      (refine wpAnyH_take (i := 1) (v := ?_) rfl (by kernel_rfl) (by kernel_rfl) (by kernel_rfl) (fun _ _ _ h => h) (Or.inl ⟨by rfl, ?_⟩) (by assumption) ?_; rotate_left; (intro wq hSw; (try dsimp only at hSw); go_simp; (try with_reducible rfl)); rotate_left; (try dsimp only [Act.put]); (try simp only [List.setIfInBounds_toArray, List.set_cons_zero, List.set_cons_succ])); (try simp only [List.getElem_toArray, List.getElem_cons_succ, List.getElem_cons_zero]); (try dsimp only [Act.put]); (try simp only [List.setIfInBounds_toArray, List.set_cons_zero, List.set_cons_succ])
      (refine wpAnyH_take (i := 2) (v := ?_) rfl (by kernel_rfl) (by kernel_rfl) (by kernel_rfl) (fun _ _ _ h => h) (Or.inl ⟨by rfl, ?_⟩) (by assumption) ?_; rotate_left; (intro wq hSw; (try dsimp only at hSw); go_simp; (try with_reducible rfl)); rotate_left; (try dsimp only [Act.put]); (try simp only [List.setIfInBounds_toArray, List.set_cons_zero, List.set_cons_succ])); (try simp only [List.getElem_toArray, List.getElem_cons_succ, List.getElem_cons_zero]); (try dsimp only [Act.put]); (try simp only [List.setIfInBounds_toArray, List.set_cons_zero, List.set_cons_succ])
      (refine wpAnyH_take (i := 3) (v := ?_) rfl (by kernel_rfl) (by kernel_rfl) (by kernel_rfl) (fun _ _ _ h => h) (Or.inl ⟨by rfl, ?_⟩) (by assumption) ?_; rotate_left; (intro wq hSw; (try dsimp only at hSw); go_simp; (try with_reducible rfl)); rotate_left; (try dsimp only [Act.put]); (try simp only [List.setIfInBounds_toArray, List.set_cons_zero, List.set_cons_succ])); (try simp only [List.getElem_toArray, List.getElem_cons_succ, List.getElem_cons_zero]); (try dsimp only [Act.put]); (try simp only [List.setIfInBounds_toArray, List.set_cons_zero, List.set_cons_succ])
      (refine wpAnyH_take (i := 4) (v := ?_) rfl (by kernel_rfl) (by kernel_rfl) (by kernel_rfl) (fun _ _ _ h => h) (Or.inl ⟨by rfl, ?_⟩) (by assumption) ?_; rotate_left; (intro wq hSw; (try dsimp only at hSw); go_simp; (try with_reducible rfl)); rotate_left; (try dsimp only [Act.put]); (try simp only [List.setIfInBounds_toArray, List.set_cons_zero, List.set_cons_succ])); (try simp only [List.getElem_toArray, List.getElem_cons_succ, List.getElem_cons_zero]); (try dsimp only [Act.put]); (try simp only [List.setIfInBounds_toArray, List.set_cons_zero, List.set_cons_succ])
      (refine wpAnyH_take (i := 5) (v := ?_) rfl (by kernel_rfl) (by kernel_rfl) (by kernel_rfl) (fun _ _ _ h => h) (Or.inl ⟨by rfl, ?_⟩) (by assumption) ?_; rotate_left; (intro wq hSw; (try dsimp only at hSw); go_simp; (try with_reducible rfl)); rotate_left; (try dsimp only [Act.put]); (try simp only [List.setIfInBounds_toArray, List.set_cons_zero, List.set_cons_succ])); (try simp only [List.getElem_toArray, List.getElem_cons_succ, List.getElem_cons_zero]); (try dsimp only [Act.put]); (try simp only [List.setIfInBounds_toArray, List.set_cons_zero, List.set_cons_succ])
      (refine wpAnyH_take (i := 6) (v := ?_) rfl (by kernel_rfl) (by kernel_rfl) (by kernel_rfl) (fun _ _ _ h => h) (Or.inl ⟨by rfl, ?_⟩) (by assumption) ?_; rotate_left; (intro wq hSw; (try dsimp only at hSw); go_simp; (try with_reducible rfl)); rotate_left; (try dsimp only [Act.put]); (try simp only [List.setIfInBounds_toArray, List.set_cons_zero, List.set_cons_succ])); (try simp only [List.getElem_toArray, List.getElem_cons_succ, List.getElem_cons_zero]); (try dsimp only [Act.put]); (try simp only [List.setIfInBounds_toArray, List.set_cons_zero, List.set_cons_succ])
      (refine wpAnyH_take (i := 7) (v := ?_) rfl (by kernel_rfl) (by kernel_rfl) (by kernel_rfl) (fun _ _ _ h => h) (Or.inl ⟨by rfl, ?_⟩) (by assumption) ?_; rotate_left; (intro wq hSw; (try dsimp only at hSw); go_simp; (try with_reducible rfl)); rotate_left; (try dsimp only [Act.put]); (try simp only [List.setIfInBounds_toArray, List.set_cons_zero, List.set_cons_succ])); (try simp only [List.getElem_toArray, List.getElem_cons_succ, List.getElem_cons_zero]); (try dsimp only [Act.put]); (try simp only [List.setIfInBounds_toArray, List.set_cons_zero, List.set_cons_succ])
      (refine wpAnyH_take (i := 8) (v := ?_) rfl (by kernel_rfl) (by kernel_rfl) (by kernel_rfl) (fun _ _ _ h => h) (Or.inl ⟨by rfl, ?_⟩) (by assumption) ?_; rotate_left; (intro wq hSw; (try dsimp only at hSw); go_simp; (try with_reducible rfl)); rotate_left; (try dsimp only [Act.put]); (try simp only [List.setIfInBounds_toArray, List.set_cons_zero, List.set_cons_succ])); (try simp only [List.getElem_toArray, List.getElem_cons_succ, List.getElem_cons_zero]); (try dsimp only [Act.put]); (try simp only [List.setIfInBounds_toArray, List.set_cons_zero, List.set_cons_succ])
      refine wpAnyH_ready (rs := [9, 13]) (by kernel_rfl) (by simp) ?_
      refine AllReadyH.cons rfl (fun K' hK => ?_) (AllReadyH.cons rfl (fun K' hK => ?_) AllReadyH.nil)
      · rw [if_pos (by rfl)]
        go_simp
        go_at_call 13; (refine Calls.mono (Get_any HW.out.proc (HRt.out.below (bl_drew (Below.refl _ _))) (show (bs.take j).length ≤ 1000000000 by have h2 := HN2.out; have h3 : (bs.take j).length ≤ bs.length := (by rw [List.length_take]; exact Nat.min_le_right _ _); omega)) ?_); rintro e wz0 hg
        obtain ⟨rfl, bz0⟩ := hg.fails (HShort.out j hjb)
        have on0 := ((Only.refl (fun _ => False) w6).drew).below bz0
        have gz0 : wz0.cell? ⟨w.heap.size, 0, none⟩ = some (.int .u32 a.proc) := (on0.cell (a := ⟨w.heap.size, 0, none⟩) hK6 (fun h => h)).trans g6
        go_wp2_with fail
        refine hK.out _ _ gz0 fun hS => ?_
        (try simp only [List.getElem_toArray, List.getElem_cons_succ, List.getElem_cons_zero]); (try dsimp only [Act.put]); (try simp only [List.setIfInBounds_toArray, List.set_cons_zero, List.set_cons_succ])
        clear hK K'
        (refine wpAnyH_take (i := 10) (v := ?_) rfl (by kernel_rfl) (by kernel_rfl) (by kernel_rfl) (fun _ _ _ h => h) (Or.inl ⟨by rfl, ?_⟩) (by assumption) ?_; rotate_left; (intro wq hSw; (try dsimp only at hSw); go_simp; (try with_reducible rfl)); rotate_left; (try dsimp only [Act.put]); (try simp only [List.setIfInBounds_toArray, List.set_cons_zero, List.set_cons_succ])); (try simp only [List.getElem_toArray, List.getElem_cons_succ, List.getElem_cons_zero]); (try dsimp only [Act.put]); (try simp only [List.setIfInBounds_toArray, List.set_cons_zero, List.set_cons_succ])
        (refine wpAnyH_take (i := 11) (v := ?_) rfl (by kernel_rfl) (by kernel_rfl) (by kernel_rfl) (fun _ _ _ h => h) (Or.inl ⟨by rfl, ?_⟩) (by assumption) ?_; rotate_left; (intro wq hSw; (try dsimp only at hSw); go_simp; (try with_reducible rfl)); rotate_left; (try dsimp only [Act.put]); (try simp only [List.setIfInBounds_toArray, List.set_cons_zero, List.set_cons_succ])); (try simp only [List.getElem_toArray, List.getElem_cons_succ, List.getElem_cons_zero]); (try dsimp only [Act.put]); (try simp only [List.setIfInBounds_toArray, List.set_cons_zero, List.set_cons_succ])
        (refine wpAnyH_take (i := 12) (v := ?_) rfl (by kernel_rfl) (by kernel_rfl) (by kernel_rfl) (fun _ _ _ h => h) (Or.inl ⟨by rfl, ?_⟩) (by assumption) ?_; rotate_left; (intro wq hSw; (try dsimp only at hSw); go_simp; (try with_reducible rfl)); rotate_left; (try dsimp only [Act.put]); (try simp only [List.setIfInBounds_toArray, List.set_cons_zero, List.set_cons_succ])); (try simp only [List.getElem_toArray, List.getElem_cons_succ, List.getElem_cons_zero]); (try dsimp only [Act.put]); (try simp only [List.setIfInBounds_toArray, List.set_cons_zero, List.set_cons_succ])
        refine wpAnyH_ready (rs := [13]) (by kernel_rfl) (by simp) ?_
        refine AllReadyH.cons rfl (fun K' hK => ?_) AllReadyH.nil
        rw [if_pos (by rfl)]
        go_simp
        obtain ⟨wz1, hw1, oX1, bz1⟩ : ∃ wx, wz0.alloc (.cells arZ.toArray 33) = wx ∧ OwnL wx wz0.heap.size arZ ∧ Below wz0.heap.size wz0 wx := ⟨_, rfl, OwnL.made wz0 arZ _, bl_alloc (Below.refl wz0.heap.size wz0) (.cells arZ.toArray 33)⟩
        have hv1 : wz0.alloc (.cells #[.int .u32 0, .slice none 0 0, .string ⟨#[]⟩, .slice none 0 0, .string ⟨#[]⟩, .bool false, .int .u32 0, .bool false, .int .u32 0, .bool false, .int .u32 0, .bool false, .int .u64 0, .int .u32 0, .int .u32 0, .int .u32 0, .int .u32 0, .int .u32 0, .int .u32 0, .bool false, .int .u32 0, .int .u32 0, .int .u32 0, .int .u64 0, .int .u32 0, .int .u32 0, .int .u32 0, .slice none 0 0, .string ⟨#[]⟩, .int .u32 0, .int .u32 0, .int .u8 0, .int .u8 0, .int .u8 0, .int .u8 0, .int .u8 0, .int .u8 0, .int .u8 0, .int .u8 0, .int .u64 0] 33) = wz1 := hw1
        have on1 := on0.below bz1
        have gz1 : wz1.cell? ⟨w.heap.size, 0, none⟩ = some (.int .u32 a.proc) := (on1.cell (a := ⟨w.heap.size, 0, none⟩) hK6 (fun h => h)).trans g6
        have hx1 : w6.heap.size ≤ wz0.heap.size := on0.size
        rw [hv1]
        refine hK.out _ _ gz1 fun hS => ?_
        (try simp only [List.getElem_toArray, List.getElem_cons_succ, List.getElem_cons_zero]); (try dsimp only [Act.put]); (try simp only [List.setIfInBounds_toArray, List.set_cons_zero, List.set_cons_succ])
        clear hK K' hw1 hv1
        refine wpAnyH_ready (rs := [14]) (by kernel_rfl) (by simp) ?_
        refine AllReadyH.cons rfl (fun K' hK => ?_) AllReadyH.nil
        rw [if_pos (by rfl)]
        refine wp_store_mid _ _ _ rfl (wz0.heap.size) 0 arZ.toArray rfl rfl oX1.there (by kernel_rfl) (all_oneCell_toArray arZ_one) ?_
        have on2 : Only (fun _ => False) w6 (wz1.setCells (wz0.heap.size) 0 arZ) := on1.then_ (only_setCells (o := 0) (vs := arZ)) (fun i hi h => by have := hx1; omega)
        have gz2 : (wz1.setCells (wz0.heap.size) 0 arZ).cell? ⟨w.heap.size, 0, none⟩ = some (.int .u32 a.proc) := (on2.cell (a := ⟨w.heap.size, 0, none⟩) hK6 (fun h => h)).trans g6
        refine hK.out _ _ gz2 fun hS => ?_
        (try simp only [List.getElem_toArray, List.getElem_cons_succ, List.getElem_cons_zero]); (try dsimp only [Act.put]); (try simp only [List.setIfInBounds_toArray, List.set_cons_zero, List.set_cons_succ])
        clear hK K'
        (refine wpAnyH_take (i := 15) (v := ?_) rfl (by kernel_rfl) (by kernel_rfl) (by kernel_rfl) (fun _ _ _ h => h) (Or.inl ⟨by rfl, ?_⟩) (by assumption) ?_; rotate_left; (intro wq hSw; (try dsimp only at hSw); go_simp; (try with_reducible rfl)); rotate_left; (try dsimp only [Act.put]); (try simp only [List.setIfInBounds_toArray, List.set_cons_zero, List.set_cons_succ])); (try simp only [List.getElem_toArray, List.getElem_cons_succ, List.getElem_cons_zero]); (try dsimp only [Act.put]); (try simp only [List.setIfInBounds_toArray, List.set_cons_zero, List.set_cons_succ])
        refine wpAnyH_done (by kernel_rfl) ?_ _
        (first | refine hK2 _ _ (Met.intro ?_) | refine Met.intro ?_ | skip)
        refine hJ _ _ ?_
        (repeat apply Exists.intro)
        refine ⟨?_, rfl⟩
        exact ⟨_, rfl, rfl, Lib.hid on2⟩
      · rw [if_pos (by rfl)]
        go_simp
        obtain ⟨wz3, hw3, oX3, bz3⟩ : ∃ wx, (w6.alloc (.cells arZ.toArray 33)).drew = wx ∧ OwnL wx w6.heap.size arZ ∧ Below w6.drew.heap.size w6.drew wx := ⟨_, rfl, (OwnL.made w6 arZ _).drew, bl_alloc (Below.refl w6.drew.heap.size w6.drew) (.cells arZ.toArray 33)⟩
        have hv3 : (w6.alloc (.cells #[.int .u32 0, .slice none 0 0, .string ⟨#[]⟩, .slice none 0 0, .string ⟨#[]⟩, .bool false, .int .u32 0, .bool false, .int .u32 0, .bool false, .int .u32 0, .bool false, .int .u64 0, .int .u32 0, .int .u32 0, .int .u32 0, .int .u32 0, .int .u32 0, .int .u32 0, .bool false, .int .u32 0, .int .u32 0, .int .u32 0, .int .u64 0, .int .u32 0, .int .u32 0, .int .u32 0, .slice none 0 0, .string ⟨#[]⟩, .int .u32 0, .int .u32 0, .int .u8 0, .int .u8 0, .int .u8 0, .int .u8 0, .int .u8 0, .int .u8 0, .int .u8 0, .int .u8 0, .int .u64 0] 33)).drew = wz3 := hw3
        have on3 := ((Only.refl (fun _ => False) w6).drew).below bz3
        have gz3 : wz3.cell? ⟨w.heap.size, 0, none⟩ = some (.int .u32 a.proc) := (on3.cell (a := ⟨w.heap.size, 0, none⟩) hK6 (fun h => h)).trans g6
        have hx3 : w6.heap.size ≤ w6.heap.size := ((Only.refl (fun _ => False) w6).drew).size
        rw [hv3]
        refine hK.out _ _ gz3 fun hS => ?_
        (try simp only [List.getElem_toArray, List.getElem_cons_succ, List.getElem_cons_zero]); (try dsimp only [Act.put]); (try simp only [List.setIfInBounds_toArray, List.set_cons_zero, List.set_cons_succ])
        clear hK K' hw3 hv3
        have rd3 := Rd.below (HRt.out.below (bl_drew (Below.refl _ _))) bz3
        refine wpAnyH_ready (rs := [9]) (by kernel_rfl) (by simp) ?_
        refine AllReadyH.cons rfl (fun K' hK => ?_) AllReadyH.nil
        rw [if_pos (by rfl)]
        go_simp
        go_at_call 13; (refine Calls.mono (Get_any HW.out.proc (rd3) (show (bs.take j).length ≤ 1000000000 by have h2 := HN2.out; have h3 : (bs.take j).length ≤ bs.length := (by rw [List.length_take]; exact Nat.min_le_right _ _); omega)) ?_); rintro e wz4 hg
        obtain ⟨rfl, bz4⟩ := hg.fails (HShort.out j hjb)
        have on4 := on3.below bz4
        have oX4 := oX3.trk bz4
        have gz4 : wz4.cell? ⟨w.heap.size, 0, none⟩ = some (.int .u32 a.proc) := (on4.cell (a := ⟨w.heap.size, 0, none⟩) hK6 (fun h => h)).trans g6
        go_wp2_with fail
        refine hK.out _ _ gz4 fun hS => ?_
        (try simp only [List.getElem_toArray, List.getElem_cons_succ, List.getElem_cons_zero]); (try dsimp only [Act.put]); (try simp only [List.setIfInBounds_toArray, List.set_cons_zero, List.set_cons_succ])
        clear hK K'
        (refine wpAnyH_take (i := 10) (v := ?_) rfl (by kernel_rfl) (by kernel_rfl) (by kernel_rfl) (fun _ _ _ h => h) (Or.inl ⟨by rfl, ?_⟩) (by assumption) ?_; rotate_left; (intro wq hSw; (try dsimp only at hSw); go_simp; (try with_reducible rfl)); rotate_left; (try dsimp only [Act.put]); (try simp only [List.setIfInBounds_toArray, List.set_cons_zero, List.set_cons_succ])); (try simp only [List.getElem_toArray, List.getElem_cons_succ, List.getElem_cons_zero]); (try dsimp only [Act.put]); (try simp only [List.setIfInBounds_toArray, List.set_cons_zero, List.set_cons_succ])
        (refine wpAnyH_take (i := 11) (v := ?_) rfl (by kernel_rfl) (by kernel_rfl) (by kernel_rfl) (fun _ _ _ h => h) (Or.inl ⟨by rfl, ?_⟩) (by assumption) ?_; rotate_left; (intro wq hSw; (try dsimp only at hSw); go_simp; (try with_reducible rfl)); rotate_left; (try dsimp only [Act.put]); (try simp only [List.setIfInBounds_toArray, List.set_cons_zero, List.set_cons_succ])); (try simp only [List.getElem_toArray, List.getElem_cons_succ, List.getElem_cons_zero]); (try dsimp only [Act.put]); (try simp only [List.setIfInBounds_toArray, List.set_cons_zero, List.set_cons_succ])
        (refine wpAnyH_take (i := 12) (v := ?_) rfl (by kernel_rfl) (by kernel_rfl) (by kernel_rfl) (fun _ _ _ h => h) (Or.inl ⟨by rfl, ?_⟩) (by assumption) ?_; rotate_left; (intro wq hSw; (try dsimp only at hSw); go_simp; (try with_reducible rfl)); rotate_left; (try dsimp only [Act.put]); (try simp only [List.setIfInBounds_toArray, List.set_cons_zero, List.set_cons_succ])); (try simp only [List.getElem_toArray, List.getElem_cons_succ, List.getElem_cons_zero]); (try dsimp only [Act.put]); (try simp only [List.setIfInBounds_toArray, List.set_cons_zero, List.set_cons_succ])
        refine wpAnyH_ready (rs := [14]) (by kernel_rfl) (by simp) ?_
        refine AllReadyH.cons rfl (fun K' hK => ?_) AllReadyH.nil
        rw [if_pos (by rfl)]
        refine wp_store_mid _ _ _ rfl (w6.heap.size) 0 arZ.toArray rfl rfl oX4.there (by kernel_rfl) (all_oneCell_toArray arZ_one) ?_
        have on5 : Only (fun _ => False) w6 (wz4.setCells (w6.heap.size) 0 arZ) := on4.then_ (only_setCells (o := 0) (vs := arZ)) (fun i hi h => by have := hx3; omega)
        have gz5 : (wz4.setCells (w6.heap.size) 0 arZ).cell? ⟨w.heap.size, 0, none⟩ = some (.int .u32 a.proc) := (on5.cell (a := ⟨w.heap.size, 0, none⟩) hK6 (fun h => h)).trans g6
        refine hK.out _ _ gz5 fun hS => ?_
        (try simp only [List.getElem_toArray, List.getElem_cons_succ, List.getElem_cons_zero]); (try dsimp only [Act.put]); (try simp only [List.setIfInBounds_toArray, List.set_cons_zero, List.set_cons_succ])
        clear hK K'
        (refine wpAnyH_take (i := 15) (v := ?_) rfl (by kernel_rfl) (by kernel_rfl) (by kernel_rfl) (fun _ _ _ h => h) (Or.inl ⟨by rfl, ?_⟩) (by assumption) ?_; rotate_left; (intro wq hSw; (try dsimp only at hSw); go_simp; (try with_reducible rfl)); rotate_left; (try dsimp only [Act.put]); (try simp only [List.setIfInBounds_toArray, List.set_cons_zero, List.set_cons_succ])); (try simp only [List.getElem_toArray, List.getElem_cons_succ, List.getElem_cons_zero]); (try dsimp only [Act.put]); (try simp only [List.setIfInBounds_toArray, List.set_cons_zero, List.set_cons_succ])
        refine wpAnyH_done (by kernel_rfl) ?_ _
        (first | refine hK2 _ _ (Met.intro ?_) | refine Met.intro ?_ | skip)
        refine hJ _ _ ?_
        (repeat apply Exists.intro)
        refine ⟨?_, rfl⟩
        exact ⟨_, rfl, rfl, Lib.hid on5⟩
    case rest =>
    obtain ⟨p9, rfl, rfl, HOm⟩ := hcut
    have hb8 : Below w6.heap.size w6 wc := only_below (Below.refl _ _) HOm.out (fun i h => h.elim)
    have HAq := Lib.hid (HA6.out.below hb8)
    have HXq := Lib.hid (HX6.out.below hb8)
    have HOq := Lib.hid (HO6.out.below hb8)
    have HBq := Lib.hid (bl_then HBw.out hb8)
    have gq : wc.cell? ⟨w.heap.size, 0, none⟩ = some (.int .u32 a.proc) := HAq.out.own.2.1 0
    have hs8 := hb8.size
    have hKq : w.heap.size < wc.heap.size := by omega
    have hXq : X < wc.heap.size := by omega
    clear HOm hb8 g6 HA6 HX6 HO6 HBw HRt hj hwr hjc hjn
    go_upto_region 9 with fail
    go_upto_region 11 with fail
    go_upto_region 11 with fail
    go_cut [11, 12] from 60 (fun s11 s12 wx => ∃ p, s11 = p ∧ s12 = .int .i64 5 ∧ Hid (Only (fun i => (Value.slice Ab nb cb).ownBlock = some i) wc wx))
    case first =>
      rename_i J K2 hJ hK2
      refine wp_region_held_drew (S := fun wq => wq.cell? ⟨w.heap.size, 0, none⟩ = some (.int .u32 a.proc)) rfl gq fun hS0 => ?_
      (refine wpAnyH_take (i := 0) (v := ?_) rfl (by kernel_rfl) (by kernel_rfl) (by kernel_rfl) (fun _ _ _ h => h) (Or.inl ⟨by rfl, ?_⟩) (by assumption) ?_; rotate_left; (intro wq hSw; (try dsimp only at hSw); go_simp; (try with_reducible rfl)); rotate_left; (try dsimp only [Act.put]); (try simp only [List.setIfInBounds_toArray, List.set_cons_zero, List.set_cons_succ])); (try simp only [List.getElem_toArray, List.getElem_cons_succ, List.getElem_cons_zero]); (try dsimp only [Act.put]); (try simp only [List.setIfInBounds_toArray, List.set_cons_zero, List.set_cons_succ])
      (refine wpAnyH_take (i := 1) (v := ?_) rfl (by kernel_rfl) (by kernel_rfl) (by kernel_rfl) (fun _ _ _ h => h) (Or.inl ⟨by rfl, ?_⟩) (by assumption) ?_; rotate_left; (intro wq hSw; (try dsimp only at hSw); go_simp; (try with_reducible rfl)); rotate_left; (try dsimp only [Act.put]); (try simp only [List.setIfInBounds_toArray, List.set_cons_zero, List.set_cons_succ])); (try simp only [List.getElem_toArray, List.getElem_cons_succ, List.getElem_cons_zero]); (try dsimp only [Act.put]); (try simp only [List.setIfInBounds_toArray, List.set_cons_zero, List.set_cons_succ])
      (refine wpAnyH_take (i := 2) (v := ?_) rfl (by kernel_rfl) (by kernel_rfl) (by kernel_rfl) (fun _ _ _ h => h) (Or.inl ⟨by rfl, ?_⟩) (by assumption) ?_; rotate_left; (intro wq hSw; (try dsimp only at hSw); go_simp; (try with_reducible rfl)); rotate_left; (try dsimp only [Act.put]); (try simp only [List.setIfInBounds_toArray, List.set_cons_zero, List.set_cons_succ])); (try simp only [List.getElem_toArray, List.getElem_cons_succ, List.getElem_cons_zero]); (try dsimp only [Act.put]); (try simp only [List.setIfInBounds_toArray, List.set_cons_zero, List.set_cons_succ])
      refine wpAnyH_ready (rs := [3, 9]) (by kernel_rfl) (by simp) ?_
      refine AllReadyH.cons rfl (fun K' hK => ?_) (AllReadyH.cons rfl (fun K' hK => ?_) AllReadyH.nil)
      · rw [if_pos (by rfl)]
        go_simp
        obtain ⟨wz0, hw0, bz0, rb0⟩ : ∃ wx, (wc.alloc (.cells #[.int .u8 0] 5)).drew = wx ∧ Below wc.drew.heap.size wc.drew wx ∧ Rd wx (.slice (some ⟨wc.heap.size, 0, none⟩) 1 1) [0] := ⟨_, rfl, bl_alloc (Below.refl wc.drew.heap.size wc.drew) (.cells #[.int .u8 0] 5), (rd_zero wc).below (bl_drew (Below.refl _ _))⟩
        have on0 := ((Only.refl (fun i => (Value.slice Ab nb cb).ownBlock = some i) wc).drew).below bz0
        have gz0 : wz0.cell? ⟨w.heap.size, 0, none⟩ = some (.int .u32 a.proc) := (on0.cell (a := ⟨w.heap.size, 0, none⟩) hKq hnG).trans gq
        have ow0 := HOq.out.drew.below bz0
        rw [hw0]
        refine hK.out _ _ gz0 fun hS => ?_
        (try simp only [List.getElem_toArray, List.getElem_cons_succ, List.getElem_cons_zero]); (try dsimp only [Act.put]); (try simp only [List.setIfInBounds_toArray, List.set_cons_zero, List.set_cons_succ])
        clear hK K' hw0
        refine wpAnyH_ready (rs := [4, 9]) (by kernel_rfl) (by simp) ?_
        refine AllReadyH.cons rfl (fun K' hK => ?_) (AllReadyH.cons rfl (fun K' hK => ?_) AllReadyH.nil)
        · rw [if_pos (by rfl)]
          refine oper_append_rd _ _ rfl rfl rfl ow0 rb0 (show bs.length + [(0 : UInt8)].length ≤ 1099511627776 by have := HN2.out; simp only [List.length_cons, List.length_nil]; omega) (Nat.zero_le _) ?_
          intro va1 wz1 oa1 ga1 _
          have on1 := on0.grown ga1 (fun i _ h => h.symm)
          have gz1 : wz1.cell? ⟨w.heap.size, 0, none⟩ = some (.int .u32 a.proc) := (on1.cell (a := ⟨w.heap.size, 0, none⟩) hKq hnG).trans gq
          refine hK.out _ _ gz1 fun hS => ?_
          (try simp only [List.getElem_toArray, List.getElem_cons_succ, List.getElem_cons_zero]); (try dsimp only [Act.put]); (try simp only [List.setIfInBounds_toArray, List.set_cons_zero, List.set_cons_succ])
          clear hK K'
          refine wpAnyH_ready (rs := [5, 9]) (by kernel_rfl) (by simp) ?_
          refine AllReadyH.cons rfl (fun K' hK => ?_) (AllReadyH.cons rfl (fun K' hK => ?_) AllReadyH.nil)
          · rw [if_pos (by rfl)]
            go_simp
            go_at_call 13; (refine Calls.mono (Get_any HW.out.proc (oa1.rd) (show (bs ++ [0]).length ≤ 1000000000 by have := HN2.out; rw [List.length_append, List.length_singleton]; omega)) ?_); rintro e wz2 hg
            obtain ⟨rfl, bz2⟩ := hg.fails (HMore.out)
            have on2 := on1.below bz2
            have gz2 : wz2.cell? ⟨w.heap.size, 0, none⟩ = some (.int .u32 a.proc) := (on2.cell (a := ⟨w.heap.size, 0, none⟩) hKq hnG).trans gq
            go_wp2_with fail
            refine hK.out _ _ gz2 fun hS => ?_
            (try simp only [List.getElem_toArray, List.getElem_cons_succ, List.getElem_cons_zero]); (try dsimp only [Act.put]); (try simp only [List.setIfInBounds_toArray, List.set_cons_zero, List.set_cons_succ])
            clear hK K'
            (refine wpAnyH_take (i := 6) (v := ?_) rfl (by kernel_rfl) (by kernel_rfl) (by kernel_rfl) (fun _ _ _ h => h) (Or.inl ⟨by rfl, ?_⟩) (by assumption) ?_; rotate_left; (intro wq hSw; (try dsimp only at hSw); go_simp; (try with_reducible rfl)); rotate_left; (try dsimp only [Act.put]); (try simp only [List.setIfInBounds_toArray, List.set_cons_zero, List.set_cons_succ])); (try simp only [List.getElem_toArray, List.getElem_cons_succ, List.getElem_cons_zero]); (try dsimp only [Act.put]); (try simp only [List.setIfInBounds_toArray, List.set_cons_zero, List.set_cons_succ])
            (refine wpAnyH_take (i := 7) (v := ?_) rfl (by kernel_rfl) (by kernel_rfl) (by kernel_rfl) (fun _ _ _ h => h) (Or.inl ⟨by rfl, ?_⟩) (by assumption) ?_; rotate_left; (intro wq hSw; (try dsimp only at hSw); go_simp; (try with_reducible rfl)); rotate_left; (try dsimp only [Act.put]); (try simp only [List.setIfInBounds_toArray, List.set_cons_zero, List.set_cons_succ])); (try simp only [List.getElem_toArray, List.getElem_cons_succ, List.getElem_cons_zero]); (try dsimp only [Act.put]); (try simp only [List.setIfInBounds_toArray, List.set_cons_zero, List.set_cons_succ])
            (refine wpAnyH_take (i := 8) (v := ?_) rfl (by kernel_rfl) (by kernel_rfl) (by kernel_rfl) (fun _ _ _ h => h) (Or.inl ⟨by rfl, ?_⟩) (by assumption) ?_; rotate_left; (intro wq hSw; (try dsimp only at hSw); go_simp; (try with_reducible rfl)); rotate_left; (try dsimp only [Act.put]); (try simp only [List.setIfInBounds_toArray, List.set_cons_zero, List.set_cons_succ])); (try simp only [List.getElem_toArray, List.getElem_cons_succ, List.getElem_cons_zero]); (try dsimp only [Act.put]); (try simp only [List.setIfInBounds_toArray, List.set_cons_zero, List.set_cons_succ])
            refine wpAnyH_ready (rs := [9]) (by kernel_rfl) (by simp) ?_
            refine AllReadyH.cons rfl (fun K' hK => ?_) AllReadyH.nil
            rw [if_pos (by rfl)]
            go_simp
            obtain ⟨wz3, hw3, oX3, bz3⟩ : ∃ wx, wz2.alloc (.cells arZ.toArray 33) = wx ∧ OwnL wx wz2.heap.size arZ ∧ Below wz2.heap.size wz2 wx := ⟨_, rfl, OwnL.made wz2 arZ _, bl_alloc (Below.refl wz2.heap.size wz2) (.cells arZ.toArray 33)⟩
            have hv3 : wz2.alloc (.cells #[.int .u32 0, .slice none 0 0, .string ⟨#[]⟩, .slice none 0 0, .string ⟨#[]⟩, .bool false, .int .u32 0, .bool false, .int .u32 0, .bool false, .int .u32 0, .bool false, .int .u64 0, .int .u32 0, .int .u32 0, .int .u32 0, .int .u32 0, .int .u32 0, .int .u32 0, .bool false, .int .u32 0, .int .u32 0, .int .u32 0, .int .u64 0, .int .u32 0, .int .u32 0, .int .u32 0, .slice none 0 0, .string ⟨#[]⟩, .int .u32 0, .int .u32 0, .int .u8 0, .int .u8 0, .int .u8 0, .int .u8 0, .int .u8 0, .int .u8 0, .int .u8 0, .int .u8 0, .int .u64 0] 33) = wz3 := hw3
            have on3 := on2.below bz3
            have gz3 : wz3.cell? ⟨w.heap.size, 0, none⟩ = some (.int .u32 a.proc) := (on3.cell (a := ⟨w.heap.size, 0, none⟩) hKq hnG).trans gq
            have hx3 : wc.heap.size ≤ wz2.heap.size := on2.size
            rw [hv3]
            refine hK.out _ _ gz3 fun hS => ?_
            (try simp only [List.getElem_toArray, List.getElem_cons_succ, List.getElem_cons_zero]); (try dsimp only [Act.put]); (try simp only [List.setIfInBounds_toArray, List.set_cons_zero, List.set_cons_succ])
            clear hK K' hw3 hv3
            refine wpAnyH_ready (rs := [10]) (by kernel_rfl) (by simp) ?_
            refine AllReadyH.cons rfl (fun K' hK => ?_) AllReadyH.nil
            rw [if_pos (by rfl)]
            refine wp_store_mid _ _ _ rfl (wz2.heap.size) 0 arZ.toArray rfl rfl oX3.there (by kernel_rfl) (all_oneCell_toArray arZ_one) ?_
            have on4 : Only (fun i => (Value.slice Ab nb cb).ownBlock = some i) wc (wz3.setCells (wz2.heap.size) 0 arZ) := on3.then_ (only_setCells (o := 0) (vs := arZ)) (fun i hi h => by have := hx3; omega)
            have gz4 : (wz3.setCells (wz2.heap.size) 0 arZ).cell? ⟨w.heap.size, 0, none⟩ = some (.int .u32 a.proc) := (on4.cell (a := ⟨w.heap.size, 0, none⟩) hKq hnG).trans gq
            refine hK.out _ _ gz4 fun hS => ?_
            (try simp only [List.getElem_toArray, List.getElem_cons_succ, List.getElem_cons_zero]); (try dsimp only [Act.put]); (try simp only [List.setIfInBounds_toArray, List.set_cons_zero, List.set_cons_succ])
            clear hK K'
            (refine wpAnyH_take (i := 11) (v := ?_) rfl (by kernel_rfl) (by kernel_rfl) (by kernel_rfl) (fun _ _ _ h => h) (Or.inl ⟨by rfl, ?_⟩) (by assumption) ?_; rotate_left; (intro wq hSw; (try dsimp only at hSw); go_simp; (try with_reducible rfl)); rotate_left; (try dsimp only [Act.put]); (try simp only [List.setIfInBounds_toArray, List.set_cons_zero, List.set_cons_succ])); (try simp only [List.getElem_toArray, List.getElem_cons_succ, List.getElem_cons_zero]); (try dsimp only [Act.put]); (try simp only [List.setIfInBounds_toArray, List.set_cons_zero, List.set_cons_succ])
            refine wpAnyH_done (by kernel_rfl) ?_ _
            (first | refine hK2 _ _ (Met.intro ?_) | refine Met.intro ?_ | skip)
            refine hJ _ _ ?_
            (repeat apply Exists.intro)
            refine ⟨?_, rfl⟩
            exact ⟨_, rfl, rfl, Lib.hid on4⟩
          · rw [if_pos (by rfl)]
            go_simp
            obtain ⟨wz5, hw5, oX5, bz5⟩ : ∃ wx, wz1.alloc (.cells arZ.toArray 33) = wx ∧ OwnL wx wz1.heap.size arZ ∧ Below wz1.heap.size wz1 wx := ⟨_, rfl, OwnL.made wz1 arZ _, bl_alloc (Below.refl wz1.heap.size wz1) (.cells arZ.toArray 33)⟩
            have hv5 : wz1.alloc (.cells #[.int .u32 0, .slice none 0 0, .string ⟨#[]⟩, .slice none 0 0, .string ⟨#[]⟩, .bool false, .int .u32 0, .bool false, .int .u32 0, .bool false, .int .u32 0, .bool false, .int .u64 0, .int .u32 0, .int .u32 0, .int .u32 0, .int .u32 0, .int .u32 0, .int .u32 0, .bool false, .int .u32 0, .int .u32 0, .int .u32 0, .int .u64 0, .int .u32 0, .int .u32 0, .int .u32 0, .slice none 0 0, .string ⟨#[]⟩, .int .u32 0, .int .u32 0, .int .u8 0, .int .u8 0, .int .u8 0, .int .u8 0, .int .u8 0, .int .u8 0, .int .u8 0, .int .u8 0, .int .u64 0] 33) = wz5 := hw5
            have on5 := on1.below bz5
            have gz5 : wz5.cell? ⟨w.heap.size, 0, none⟩ = some (.int .u32 a.proc) := (on5.cell (a := ⟨w.heap.size, 0, none⟩) hKq hnG).trans gq
            have hx5 : wc.heap.size ≤ wz1.heap.size := on1.size
            rw [hv5]
            refine hK.out _ _ gz5 fun hS => ?_
            (try simp only [List.getElem_toArray, List.getElem_cons_succ, List.getElem_cons_zero]); (try dsimp only [Act.put]); (try simp only [List.setIfInBounds_toArray, List.set_cons_zero, List.set_cons_succ])
            clear hK K' hw5 hv5
            have rd5 := Rd.below (oa1.rd) bz5
            refine wpAnyH_ready (rs := [5]) (by kernel_rfl) (by simp) ?_
            refine AllReadyH.cons rfl (fun K' hK => ?_) AllReadyH.nil
            rw [if_pos (by rfl)]
            go_simp
            go_at_call 13; (refine Calls.mono (Get_any HW.out.proc (rd5) (show (bs ++ [0]).length ≤ 1000000000 by have := HN2.out; rw [List.length_append, List.length_singleton]; omega)) ?_); rintro e wz6 hg
            obtain ⟨rfl, bz6⟩ := hg.fails (HMore.out)
            have on6 := on5.below bz6
            have oX6 := oX5.trk bz6
            have gz6 : wz6.cell? ⟨w.heap.size, 0, none⟩ = some (.int .u32 a.proc) := (on6.cell (a := ⟨w.heap.size, 0, none⟩) hKq hnG).trans gq
            go_wp2_with fail
            refine hK.out _ _ gz6 fun hS => ?_
            (try simp only [List.getElem_toArray, List.getElem_cons_succ, List.getElem_cons_zero]); (try dsimp only [Act.put]); (try simp only [List.setIfInBounds_toArray, List.set_cons_zero, List.set_cons_succ])
            clear hK K'
            (refine wpAnyH_take (i := 6) (v := ?_) rfl (by kernel_rfl) (by kernel_rfl) (by kernel_rfl) (fun _ _ _ h => h) (Or.inl ⟨by rfl, ?_⟩) (by assumption) ?_; rotate_left; (intro wq hSw; (try dsimp only at hSw); go_simp; (try with_reducible rfl)); rotate_left; (try dsimp only [Act.put]); (try simp only [List.setIfInBounds_toArray, List.set_cons_zero, List.set_cons_succ])); (try simp only [List.getElem_toArray, List.getElem_cons_succ, List.getElem_cons_zero]); (try dsimp only [Act.put]); (try simp only [List.setIfInBounds_toArray, List.set_cons_zero, List.set_cons_succ])
            (refine wpAnyH_take (i := 7) (v := ?_) rfl (by kernel_rfl) (by kernel_rfl) (by kernel_rfl) (fun _ _ _ h => h) (Or.inl ⟨by rfl, ?_⟩) (by assumption) ?_; rotate_left; (intro wq hSw; (try dsimp only at hSw); go_simp; (try with_reducible rfl)); rotate_left; (try dsimp only [Act.put]); (try simp only [List.setIfInBounds_toArray, List.set_cons_zero, List.set_cons_succ])); (try simp only [List.getElem_toArray, List.getElem_cons_succ, List.getElem_cons_zero]); (try dsimp only [Act.put]); (try simp only [List.setIfInBounds_toArray, List.set_cons_zero, List.set_cons_succ])
            (refine wpAnyH_take (i := 8) (v := ?_) rfl (by kernel_rfl) (by kernel_rfl) (by kernel_rfl) (fun _ _ _ h => h) (Or.inl ⟨by rfl, ?_⟩) (by assumption) ?_; rotate_left; (intro wq hSw; (try dsimp only at hSw); go_simp; (try with_reducible rfl)); rotate_left; (try dsimp only [Act.put]); (try simp only [List.setIfInBounds_toArray, List.set_cons_zero, List.set_cons_succ])); (try simp only [List.getElem_toArray, List.getElem_cons_succ, List.getElem_cons_zero]); (try dsimp only [Act.put]); (try simp only [List.setIfInBounds_toArray, List.set_cons_zero, List.set_cons_succ])
            refine wpAnyH_ready (rs := [10]) (by kernel_rfl) (by simp) ?_
            refine AllReadyH.cons rfl (fun K' hK => ?_) AllReadyH.nil
            rw [if_pos (by rfl)]
            refine wp_store_mid _ _ _ rfl (wz1.heap.size) 0 arZ.toArray rfl rfl oX6.there (by kernel_rfl) (all_oneCell_toArray arZ_one) ?_
            have on7 : Only (fun i => (Value.slice Ab nb cb).ownBlock = some i) wc (wz6.setCells (wz1.heap.size) 0 arZ) := on6.then_ (only_setCells (o := 0) (vs := arZ)) (fun i hi h => by have := hx5; omega)
            have gz7 : (wz6.setCells (wz1.heap.size) 0 arZ).cell? ⟨w.heap.size, 0, none⟩ = some (.int .u32 a.proc) := (on7.cell (a := ⟨w.heap.size, 0, none⟩) hKq hnG).trans gq
            refine hK.out _ _ gz7 fun hS => ?_
            (try simp only [List.getElem_toArray, List.getElem_cons_succ, List.getElem_cons_zero]); (try dsimp only [Act.put]); (try simp only [List.setIfInBounds_toArray, List.set_cons_zero, List.set_cons_succ])
            clear hK K'
            (refine wpAnyH_take (i := 11) (v := ?_) rfl (by kernel_rfl) (by kernel_rfl) (by kernel_rfl) (fun _ _ _ h => h) (Or.inl ⟨by rfl, ?_⟩) (by assumption) ?_; rotate_left; (intro wq hSw; (try dsimp only at hSw); go_simp; (try with_reducible rfl)); rotate_left; (try dsimp only [Act.put]); (try simp only [List.setIfInBounds_toArray, List.set_cons_zero, List.set_cons_succ])); (try simp only [List.getElem_toArray, List.getElem_cons_succ, List.getElem_cons_zero]); (try dsimp only [Act.put]); (try simp only [List.setIfInBounds_toArray, List.set_cons_zero, List.set_cons_succ])
            refine wpAnyH_done (by kernel_rfl) ?_ _
            (first | refine hK2 _ _ (Met.intro ?_) | refine Met.intro ?_ | skip)
            refine hJ _ _ ?_
            (repeat apply Exists.intro)
            refine ⟨?_, rfl⟩
            exact ⟨_, rfl, rfl, Lib.hid on7⟩
        · rw [if_pos (by rfl)]
          go_simp
          obtain ⟨wz8, hw8, oX8, bz8⟩ : ∃ wx, wz0.alloc (.cells arZ.toArray 33) = wx ∧ OwnL wx wz0.heap.size arZ ∧ Below wz0.heap.size wz0 wx := ⟨_, rfl, OwnL.made wz0 arZ _, bl_alloc (Below.refl wz0.heap.size wz0) (.cells arZ.toArray 33)⟩
          have hv8 : wz0.alloc (.cells #[.int .u32 0, .slice none 0 0, .string ⟨#[]⟩, .slice none 0 0, .string ⟨#[]⟩, .bool false, .int .u32 0, .bool false, .int .u32 0, .bool false, .int .u32 0, .bool false, .int .u64 0, .int .u32 0, .int .u32 0, .int .u32 0, .int .u32 0, .int .u32 0, .int .u32 0, .bool false, .int .u32 0, .int .u32 0, .int .u32 0, .int .u64 0, .int .u32 0, .int .u32 0, .int .u32 0, .slice none 0 0, .string ⟨#[]⟩, .int .u32 0, .int .u32 0, .int .u8 0, .int .u8 0, .int .u8 0, .int .u8 0, .int .u8 0, .int .u8 0, .int .u8 0, .int .u8 0, .int .u64 0] 33) = wz8 := hw8
          have on8 := on0.below bz8
          have gz8 : wz8.cell? ⟨w.heap.size, 0, none⟩ = some (.int .u32 a.proc) := (on8.cell (a := ⟨w.heap.size, 0, none⟩) hKq hnG).trans gq
          have hx8 : wc.heap.size ≤ wz0.heap.size := on0.size
          rw [hv8]
          refine hK.out _ _ gz8 fun hS => ?_
          (try simp only [List.getElem_toArray, List.getElem_cons_succ, List.getElem_cons_zero]); (try dsimp only [Act.put]); (try simp only [List.setIfInBounds_toArray, List.set_cons_zero, List.set_cons_succ])
          clear hK K' hw8 hv8
          have ow8 := ow0.below bz8
          have rb8 := Rd.below rb0 bz8
          refine wpAnyH_ready (rs := [4]) (by kernel_rfl) (by simp) ?_
          refine AllReadyH.cons rfl (fun K' hK => ?_) AllReadyH.nil
          rw [if_pos (by rfl)]
          refine oper_append_rd _ _ rfl rfl rfl ow8 rb8 (show bs.length + [(0 : UInt8)].length ≤ 1099511627776 by have := HN2.out; simp only [List.length_cons, List.length_nil]; omega) (Nat.zero_le _) ?_
          intro va9 wz9 oa9 ga9 _
          have on9 := on8.grown ga9 (fun i _ h => h.symm)
          have gz9 : wz9.cell? ⟨w.heap.size, 0, none⟩ = some (.int .u32 a.proc) := (on9.cell (a := ⟨w.heap.size, 0, none⟩) hKq hnG).trans gq
          have oX9 := oX8.only ((Only.refl (fun i => (Value.slice Ab nb cb).ownBlock = some i) _).grown ga9 (fun i _ h => h.symm)) (fun h => by have := HGhi.out _ h; have := hx8; omega)
          refine hK.out _ _ gz9 fun hS => ?_
          (try simp only [List.getElem_toArray, List.getElem_cons_succ, List.getElem_cons_zero]); (try dsimp only [Act.put]); (try simp only [List.setIfInBounds_toArray, List.set_cons_zero, List.set_cons_succ])
          clear hK K'
          refine wpAnyH_ready (rs := [5]) (by kernel_rfl) (by simp) ?_
          refine AllReadyH.cons rfl (fun K' hK => ?_) AllReadyH.nil
          rw [if_pos (by rfl)]
          go_simp
          go_at_call 13; (refine Calls.mono (Get_any HW.out.proc (oa9.rd) (show (bs ++ [0]).length ≤ 1000000000 by have := HN2.out; rw [List.length_append, List.length_singleton]; omega)) ?_); rintro e wz10 hg
          obtain ⟨rfl, bz10⟩ := hg.fails (HMore.out)
          have on10 := on9.below bz10
          have oX10 := oX9.trk bz10
          have gz10 : wz10.cell? ⟨w.heap.size, 0, none⟩ = some (.int .u32 a.proc) := (on10.cell (a := ⟨w.heap.size, 0, none⟩) hKq hnG).trans gq
          go_wp2_with fail
          refine hK.out _ _ gz10 fun hS => ?_
          (try simp only [List.getElem_toArray, List.getElem_cons_succ, List.getElem_cons_zero]); (try dsimp only [Act.put]); (try simp only [List.setIfInBounds_toArray, List.set_cons_zero, List.set_cons_succ])
          clear hK K'
          (refine wpAnyH_take (i := 6) (v := ?_) rfl (by kernel_rfl) (by kernel_rfl) (by kernel_rfl) (fun _ _ _ h => h) (Or.inl ⟨by rfl, ?_⟩) (by assumption) ?_; rotate_left; (intro wq hSw; (try dsimp only at hSw); go_simp; (try with_reducible rfl)); rotate_left; (try dsimp only [Act.put]); (try simp only [List.setIfInBounds_toArray, List.set_cons_zero, List.set_cons_succ])); (try simp only [List.getElem_toArray, List.getElem_cons_succ, List.getElem_cons_zero]); (try dsimp only [Act.put]); (try simp only [List.setIfInBounds_toArray, List.set_cons_zero, List.set_cons_succ])
          (refine wpAnyH_take (i := 7) (v := ?_) rfl (by kernel_rfl) (by kernel_rfl) (by kernel_rfl) (fun _ _ _ h => h) (Or.inl ⟨by rfl, ?_⟩) (by assumption) ?_; rotate_left; (intro wq hSw; (try dsimp only at hSw); go_simp; (try with_reducible rfl)); rotate_left; (try dsimp only [Act.put]); (try simp only [List.setIfInBounds_toArray, List.set_cons_zero, List.set_cons_succ])); (try simp only [List.getElem_toArray, List.getElem_cons_succ, List.getElem_cons_zero]); (try dsimp only [Act.put]); (try simp only [List.setIfInBounds_toArray, List.set_cons_zero, List.set_cons_succ])
          (refine wpAnyH_take (i := 8) (v := ?_) rfl (by kernel_rfl) (by kernel_rfl) (by kernel_rfl) (fun _ _ _ h => h) (Or.inl ⟨by rfl, ?_⟩) (by assumption) ?_; rotate_left; (intro wq hSw; (try dsimp only at hSw); go_simp; (try with_reducible rfl)); rotate_left; (try dsimp only [Act.put]); (try simp only [List.setIfInBounds_toArray, List.set_cons_zero, List.set_cons_succ])); (try simp only [List.getElem_toArray, List.getElem_cons_succ, List.getElem_cons_zero]); (try dsimp only [Act.put]); (try simp only [List.setIfInBounds_toArray, List.set_cons_zero, List.set_cons_succ])
          refine wpAnyH_ready (rs := [10]) (by kernel_rfl) (by simp) ?_
          refine AllReadyH.cons rfl (fun K' hK => ?_) AllReadyH.nil
          rw [if_pos (by rfl)]
          refine wp_store_mid _ _ _ rfl (wz0.heap.size) 0 arZ.toArray rfl rfl oX10.there (by kernel_rfl) (all_oneCell_toArray arZ_one) ?_
          have on11 : Only (fun i => (Value.slice Ab nb cb).ownBlock = some i) wc (wz10.setCells (wz0.heap.size) 0 arZ) := on10.then_ (only_setCells (o := 0) (vs := arZ)) (fun i hi h => by have := hx8; omega)
          have gz11 : (wz10.setCells (wz0.heap.size) 0 arZ).cell? ⟨w.heap.size, 0, none⟩ = some (.int .u32 a.proc) := (on11.cell (a := ⟨w.heap.size, 0, none⟩) hKq hnG).trans gq
          refine hK.out _ _ gz11 fun hS => ?_
          (try simp only [List.getElem_toArray, List.getElem_cons_succ, List.getElem_cons_zero]); (try dsimp only [Act.put]); (try simp only [List.setIfInBounds_toArray, List.set_cons_zero, List.set_cons_succ])
          clear hK K'
          (refine wpAnyH_take (i := 11) (v := ?_) rfl (by kernel_rfl) (by kernel_rfl) (by kernel_rfl) (fun _ _ _ h => h) (Or.inl ⟨by rfl, ?_⟩) (by assumption) ?_; rotate_left; (intro wq hSw; (try dsimp only at hSw); go_simp; (try with_reducible rfl)); rotate_left; (try dsimp only [Act.put]); (try simp only [List.setIfInBounds_toArray, List.set_cons_zero, List.set_cons_succ])); (try simp only [List.getElem_toArray, List.getElem_cons_succ, List.getElem_cons_zero]); (try dsimp only [Act.put]); (try simp only [List.setIfInBounds_toArray, List.set_cons_zero, List.set_cons_succ])
          refine wpAnyH_done (by kernel_rfl) ?_ _
          (first | refine hK2 _ _ (Met.intro ?_) | refine Met.intro ?_ | skip)
          refine hJ _ _ ?_
          (repeat apply Exists.intro)
          refine ⟨?_, rfl⟩
          exact ⟨_, rfl, rfl, Lib.hid on11⟩
      · rw [if_pos (by rfl)]
        go_simp
        obtain ⟨wz12, hw12, oX12, bz12⟩ : ∃ wx, (wc.alloc (.cells arZ.toArray 33)).drew = wx ∧ OwnL wx wc.heap.size arZ ∧ Below wc.drew.heap.size wc.drew wx := ⟨_, rfl, (OwnL.made wc arZ _).drew, bl_alloc (Below.refl wc.drew.heap.size wc.drew) (.cells arZ.toArray 33)⟩
        have hv12 : (wc.alloc (.cells #[.int .u32 0, .slice none 0 0, .string ⟨#[]⟩, .slice none 0 0, .string ⟨#[]⟩, .bool false, .int .u32 0, .bool false, .int .u32 0, .bool false, .int .u32 0, .bool false, .int .u64 0, .int .u32 0, .int .u32 0, .int .u32 0, .int .u32 0, .int .u32 0, .int .u32 0, .bool false, .int .u32 0, .int .u32 0, .int .u32 0, .int .u64 0, .int .u32 0, .int .u32 0, .int .u32 0, .slice none 0 0, .string ⟨#[]⟩, .int .u32 0, .int .u32 0, .int .u8 0, .int .u8 0, .int .u8 0, .int .u8 0, .int .u8 0, .int .u8 0, .int .u8 0, .int .u8 0, .int .u64 0] 33)).drew = wz12 := hw12
        have on12 := ((Only.refl (fun i => (Value.slice Ab nb cb).ownBlock = some i) wc).drew).below bz12
        have gz12 : wz12.cell? ⟨w.heap.size, 0, none⟩ = some (.int .u32 a.proc) := (on12.cell (a := ⟨w.heap.size, 0, none⟩) hKq hnG).trans gq
        have hx12 : wc.heap.size ≤ wc.heap.size := ((Only.refl (fun i => (Value.slice Ab nb cb).ownBlock = some i) wc).drew).size
        rw [hv12]
        refine hK.out _ _ gz12 fun hS => ?_
        (try simp only [List.getElem_toArray, List.getElem_cons_succ, List.getElem_cons_zero]); (try dsimp only [Act.put]); (try simp only [List.setIfInBounds_toArray, List.set_cons_zero, List.set_cons_succ])
        clear hK K' hw12 hv12
        have ow12 := HOq.out.drew.below bz12
        refine wpAnyH_ready (rs := [3]) (by kernel_rfl) (by simp) ?_
        refine AllReadyH.cons rfl (fun K' hK => ?_) AllReadyH.nil
        rw [if_pos (by rfl)]
        go_simp
        obtain ⟨wz13, hw13, bz13, rb13⟩ : ∃ wx, wz12.alloc (.cells #[.int .u8 0] 5) = wx ∧ Below wz12.heap.size wz12 wx ∧ Rd wx (.slice (some ⟨wz12.heap.size, 0, none⟩) 1 1) [0] := ⟨_, rfl, bl_alloc (Below.refl wz12.heap.size wz12) (.cells #[.int .u8 0] 5), rd_zero wz12⟩
        have on13 := on12.below bz13
        have gz13 : wz13.cell? ⟨w.heap.size, 0, none⟩ = some (.int .u32 a.proc) := (on13.cell (a := ⟨w.heap.size, 0, none⟩) hKq hnG).trans gq
        have ow13 := ow12.below bz13
        have oX13 := oX12.trk bz13
        rw [hw13]
        refine hK.out _ _ gz13 fun hS => ?_
        (try simp only [List.getElem_toArray, List.getElem_cons_succ, List.getElem_cons_zero]); (try dsimp only [Act.put]); (try simp only [List.setIfInBounds_toArray, List.set_cons_zero, List.set_cons_succ])
        clear hK K' hw13
        refine wpAnyH_ready (rs := [4]) (by kernel_rfl) (by simp) ?_
        refine AllReadyH.cons rfl (fun K' hK => ?_) AllReadyH.nil
        rw [if_pos (by rfl)]
        refine oper_append_rd _ _ rfl rfl rfl ow13 rb13 (show bs.length + [(0 : UInt8)].length ≤ 1099511627776 by have := HN2.out; simp only [List.length_cons, List.length_nil]; omega) (Nat.zero_le _) ?_
        intro va14 wz14 oa14 ga14 _
        have on14 := on13.grown ga14 (fun i _ h => h.symm)
        have gz14 : wz14.cell? ⟨w.heap.size, 0, none⟩ = some (.int .u32 a.proc) := (on14.cell (a := ⟨w.heap.size, 0, none⟩) hKq hnG).trans gq
        have oX14 := oX13.only ((Only.refl (fun i => (Value.slice Ab nb cb).ownBlock = some i) _).grown ga14 (fun i _ h => h.symm)) (fun h => by have := HGhi.out _ h; have := hx12; omega)
        refine hK.out _ _ gz14 fun hS => ?_
        (try simp only [List.getElem_toArray, List.getElem_cons_succ, List.getElem_cons_zero]); (try dsimp only [Act.put]); (try simp only [List.setIfInBounds_toArray, List.set_cons_zero, List.set_cons_succ])
        clear hK K'
        refine wpAnyH_ready (rs := [5]) (by kernel_rfl) (by simp) ?_
        refine AllReadyH.cons rfl (fun K' hK => ?_) AllReadyH.nil
        rw [if_pos (by rfl)]
        go_simp
        go_at_call 13; (refine Calls.mono (Get_any HW.out.proc (oa14.rd) (show (bs ++ [0]).length ≤ 1000000000 by have := HN2.out; rw [List.length_append, List.length_singleton]; omega)) ?_); rintro e wz15 hg
        obtain ⟨rfl, bz15⟩ := hg.fails (HMore.out)
        have on15 := on14.below bz15
        have oX15 := oX14.trk bz15
        have gz15 : wz15.cell? ⟨w.heap.size, 0, none⟩ = some (.int .u32 a.proc) := (on15.cell (a := ⟨w.heap.size, 0, none⟩) hKq hnG).trans gq
        go_wp2_with fail
        refine hK.out _ _ gz15 fun hS => ?_
        (try simp only [List.getElem_toArray, List.getElem_cons_succ, List.getElem_cons_zero]); (try dsimp only [Act.put]); (try simp only [List.setIfInBounds_toArray, List.set_cons_zero, List.set_cons_succ])
        clear hK K'
        (refine wpAnyH_take (i := 6) (v := ?_) rfl (by kernel_rfl) (by kernel_rfl) (by kernel_rfl) (fun _ _ _ h => h) (Or.inl ⟨by rfl, ?_⟩) (by assumption) ?_; rotate_left; (intro wq hSw; (try dsimp only at hSw); go_simp; (try with_reducible rfl)); rotate_left; (try dsimp only [Act.put]); (try simp only [List.setIfInBounds_toArray, List.set_cons_zero, List.set_cons_succ])); (try simp only [List.getElem_toArray, List.getElem_cons_succ, List.getElem_cons_zero]); (try dsimp only [Act.put]); (try simp only [List.setIfInBounds_toArray, List.set_cons_zero, List.set_cons_succ])
        (refine wpAnyH_take (i := 7) (v := ?_) rfl (by kernel_rfl) (by kernel_rfl) (by kernel_rfl) (fun _ _ _ h => h) (Or.inl ⟨by rfl, ?_⟩) (by assumption) ?_; rotate_left; (intro wq hSw; (try dsimp only at hSw); go_simp; (try with_reducible rfl)); rotate_left; (try dsimp only [Act.put]); (try simp only [List.setIfInBounds_toArray, List.set_cons_zero, List.set_cons_succ])); (try simp only [List.getElem_toArray, List.getElem_cons_succ, List.getElem_cons_zero]); (try dsimp only [Act.put]); (try simp only [List.setIfInBounds_toArray, List.set_cons_zero, List.set_cons_succ])
        (refine wpAnyH_take (i := 8) (v := ?_) rfl (by kernel_rfl) (by kernel_rfl) (by kernel_rfl) (fun _ _ _ h => h) (Or.inl ⟨by rfl, ?_⟩) (by assumption) ?_; rotate_left; (intro wq hSw; (try dsimp only at hSw); go_simp; (try with_reducible rfl)); rotate_left; (try dsimp only [Act.put]); (try simp only [List.setIfInBounds_toArray, List.set_cons_zero, List.set_cons_succ])); (try simp only [List.getElem_toArray, List.getElem_cons_succ, List.getElem_cons_zero]); (try dsimp only [Act.put]); (try simp only [List.setIfInBounds_toArray, List.set_cons_zero, List.set_cons_succ])
        refine wpAnyH_ready (rs := [10]) (by kernel_rfl) (by simp) ?_
        refine AllReadyH.cons rfl (fun K' hK => ?_) AllReadyH.nil
        rw [if_pos (by rfl)]
        refine wp_store_mid _ _ _ rfl (wc.heap.size) 0 arZ.toArray rfl rfl oX15.there (by kernel_rfl) (all_oneCell_toArray arZ_one) ?_
        have on16 : Only (fun i => (Value.slice Ab nb cb).ownBlock = some i) wc (wz15.setCells (wc.heap.size) 0 arZ) := on15.then_ (only_setCells (o := 0) (vs := arZ)) (fun i hi h => by have := hx12; omega)
        have gz16 : (wz15.setCells (wc.heap.size) 0 arZ).cell? ⟨w.heap.size, 0, none⟩ = some (.int .u32 a.proc) := (on16.cell (a := ⟨w.heap.size, 0, none⟩) hKq hnG).trans gq
        refine hK.out _ _ gz16 fun hS => ?_
        (try simp only [List.getElem_toArray, List.getElem_cons_succ, List.getElem_cons_zero]); (try dsimp only [Act.put]); (try simp only [List.setIfInBounds_toArray, List.set_cons_zero, List.set_cons_succ])
        clear hK K'
        (refine wpAnyH_take (i := 11) (v := ?_) rfl (by kernel_rfl) (by kernel_rfl) (by kernel_rfl) (fun _ _ _ h => h) (Or.inl ⟨by rfl, ?_⟩) (by assumption) ?_; rotate_left; (intro wq hSw; (try dsimp only at hSw); go_simp; (try with_reducible rfl)); rotate_left; (try dsimp only [Act.put]); (try simp only [List.setIfInBounds_toArray, List.set_cons_zero, List.set_cons_succ])); (try simp only [List.getElem_toArray, List.getElem_cons_succ, List.getElem_cons_zero]); (try dsimp only [Act.put]); (try simp only [List.setIfInBounds_toArray, List.set_cons_zero, List.set_cons_succ])
        refine wpAnyH_done (by kernel_rfl) ?_ _
        (first | refine hK2 _ _ (Met.intro ?_) | refine Met.intro ?_ | skip)
        refine hJ _ _ ?_
        (repeat apply Exists.intro)
        refine ⟨?_, rfl⟩
        exact ⟨_, rfl, rfl, Lib.hid on16⟩
    case rest =>
    obtain ⟨p11, rfl, rfl, HOn⟩ := hcut
    have HAz := Lib.hid (HAq.out.only HOn.out hnG (fun g hg h => by have := HGlo.out _ h; have := HVi.out.1 _ hg; omega) (fun g hg h => by have := HGlo.out _ h; have := HVi.out.2.1 _ hg; omega) (fun g hg h => by have := HGlo.out _ h; have := HVi.out.2.2 _ hg; omega))
    have HXz := Lib.hid (HXq.out.only HOn.out (fun h => by have := HGhi.out _ h; omega) (fun g hg h => by have := HGhi.out _ h; have := HU.out.1 _ hg; omega) (fun g hg h => by have := HGhi.out _ h; have := HU.out.2.1 _ hg; omega) (fun g hg h => by have := HGhi.out _ h; have := HU.out.2.2 _ hg; omega))
    have HLx := Lib.hid (show (arC u1 u2 u3 a).length = 40 from arC_len HW.out.verf)
    have HBz := Lib.hid (only_below HBq.out HOn.out (fun i h => by have := HGlo.out _ h; omega))
    go_wp2_with (first
      | (refine wpList_load_on (by kernel_rfl) 33 _ rfl X 0 rfl (arC u1 u2 u3 a) _ HXz.out.own.range Tryz.underlying33 rfl (by rw [HLx.out]; kernel_rfl) ?_)
      | (refine wpList_load_on (by kernel_rfl) 33 _ rfl w.heap.size 0 rfl (arC v1 v2 v3 a) _ HAz.out.own.range Tryz.underlying33 rfl (by rw [HL40.out]; kernel_rfl) ?_)
      | (go_at_call 14; (refine Calls.mono (SameArgs_self HW.out HXz.out.h1 HXz.out.h2 HXz.out.h3 HAz.out.h1 HAz.out.h2 HAz.out.h3) ?_); rintro e wy ⟨rfl, by_⟩; (have HBy := Lib.hid (bl_then HBz.out by_)); clear by_))
    go_ret
    exact ⟨rfl, HBy.out⟩
end
end Go.Proofs.YtgmhapjidbdhnaaGreat

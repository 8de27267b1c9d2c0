/- ArgsMade: the law's walk. Printed by gen_larmade.py. -/
import Derived.Test.YtgmhapjidbdhnaaGreatArLawsKit
import Derived.Test.YtgmhapjidbdhnaaGreatArErr
import Derived.Test.YtgmhapjidbdhnaaGreatArLen
set_option linter.unusedVariables false
set_option linter.unusedSimpArgs false
namespace Go.Proofs.YtgmhapjidbdhnaaGreat
open Go.RowKit
theorem Put_ok {w : World} {v : Value} {a : Ar} {bs : List UInt8} (hw : ArWf a) (e1 : a.h = [1]) (e2 : a.h2 = []) (e3 : a.data = []) (hp : putA a = .ok bs) (hr : Rd w v [1]) : Calls Tryz.prog 12 #[.agg (arC v nilS nilS a).toArray] w fun e w' => ∃ v', e = .returned (.tuple #[v', .int .i64 0]) ∧ OwnB w' w.heap.size v' bs ∧ Below w.heap.size w w' :=
  Calls.mono (Put_walk hw (by rw [e1]; exact hr) (by rw [e2]; exact rd_nil w) (by rw [e3]; exact rd_nil w)) fun e w' k => k.okay hp
theorem Put_no {w : World} {v : Value} {a : Ar} (hw : ArWf a) (e1 : a.h = [1]) (e2 : a.h2 = []) (e3 : a.data = []) (hp : putA a = .error 1) (hr : Rd w v [1]) : Calls Tryz.prog 12 #[.agg (arC v nilS nilS a).toArray] w fun e w' => e = .returned (.tuple #[nilS, .int .i64 1]) ∧ Below w.heap.size w w' :=
  Calls.mono (Put_walk hw (by rw [e1]; exact hr) (by rw [e2]; exact rd_nil w) (by rw [e3]; exact rd_nil w)) fun e w' k => k.fails hp
theorem Put_exc {w : World} {v : Value} {vf : List UInt8} (hv : vf.length = 8) (hr : Rd w v [1]) : Calls Tryz.prog 12 #[.agg (arC v nilS nilS {Ar.zero 8 with h := [1], name := [110], how := 2, verf := vf}).toArray] w fun e w' => ∃ v', e = .returned (.tuple #[v', .int .i64 0]) ∧ OwnB w' w.heap.size v' (opqB [1] ++ (opqB [110] ++ (put4 2 ++ vf))) ∧ Below w.heap.size w w' :=
  Calls.mono (Put_walk (a := {Ar.zero 8 with h := [1], name := [110], how := 2, verf := vf}) ⟨show (8 : Nat) < 4294967296 by decide, z0, z1, z3, z2, z3, z3, z3, show (2 : Nat) < 4294967296 by decide, z3, hv, z2⟩ hr (rd_nil w) (rd_nil w)) fun e w' k => k.okay (put_excl hv)
theorem Rd.toBs' {w : World} {A : Option Addr} {n c : Nat} {xs : List UInt8} (h : Rd w (.slice A n c) xs) : Bs w A n xs := by
  obtain ⟨A', c', e, _, _, hb, _⟩ := h.bs
  injection e with e1 e2 e3
  subst e1; subst e2
  exact hb
theorem Same_rd' {w : World} {A B : Option Addr} {n m c d : Nat} {xs ys : List UInt8} (h : Rd w (.slice A n c) xs) (k : Rd w (.slice B m d) ys) (he : xs = ys) : Calls Tryz.prog 15 #[.slice A n c, .slice B m d] w fun e w' => e = .returned (.bool true) ∧ Below w.heap.size w w' :=
  (Same_any h.toBs' k.toBs').mono fun e w' hh => by rw [decide_eq_true he] at hh; exact hh
theorem OwnL.seta' {w : World} {b : Nat} {l l' : List Value} (h : OwnL w b l) (i : Nat) (v : Value) (hi : i < l.length) (he : l.set i v = l') : OwnL (w.setCell ⟨b, i, none⟩ v) b l' := he ▸ h.set_ hi
theorem rd_one (w : World) : Rd (w.alloc (.cells #[.int .u8 1] 5)) (.slice (some ⟨w.heap.size, 0, none⟩) 1 1) [1] := .inr ⟨w.heap.size, 0, 1, rfl, by decide, by decide, by simp, fun j hj => by
  have hj : j < 1 := hj
  obtain rfl : j = 0 := by omega
  simp [go_sem]⟩
theorem rd_verf {w : World} {b : Nat} {f0 f1 f2 f3 f4 f5 f6 f7 : UInt8} (h : OwnL w b [Value.int .u8 (f0.toNat : Int), .int .u8 (f1.toNat : Int), .int .u8 (f2.toNat : Int), .int .u8 (f3.toNat : Int), .int .u8 (f4.toNat : Int), .int .u8 (f5.toNat : Int), .int .u8 (f6.toNat : Int), .int .u8 (f7.toNat : Int)]) : Rd w (.slice (some ⟨b, 0, none⟩) 8 8) [f0, f1, f2, f3, f4, f5, f6, f7] := .inr ⟨b, 0, 8, rfl, Nat.le_of_ble_eq_true rfl, by decide, h.1, fun j hj => by
  have hj : j < 8 := hj
  rw [Nat.zero_add, h.2.1]
  match j, hj with
  | 0, _ => rfl
  | 1, _ => rfl
  | 2, _ => rfl
  | 3, _ => rfl
  | 4, _ => rfl
  | 5, _ => rfl
  | 6, _ => rfl
  | 7, _ => rfl⟩
theorem set_res {s : St} {w w' : World} {e : Ending} (h : PutPost (rSet s) w e w') (hr : (∃ b, rSet s = .ok b) ∨ rSet s = .error 1) : ∃ (v : Value) (er : Int) (SB : List UInt8), e = .returned (.tuple #[v, .int .i64 er]) ∧ ((er = 0 ∧ rSet s = .ok SB) ∨ (er = 1 ∧ SB = [] ∧ rSet s = .error 1)) ∧ Rd w' v SB ∧ Below w.heap.size w w' := by
  rcases hr with ⟨b, hb⟩ | hb
  · obtain ⟨v, e1, o, hb2⟩ := h.okay hb
    exact ⟨v, 0, b, e1, .inl ⟨rfl, hb⟩, o.rd, hb2⟩
  · obtain ⟨e1, hb2⟩ := h.fails hb
    exact ⟨_, 1, [], e1, .inr ⟨rfl, rfl, hb⟩, rd_nil _, hb2⟩
/-- What a round finds. -/
structure MadeAt (w : World) (KA : Nat) (vh : Value) (a : Ar) (vhd vst : Value) (H SB : List UInt8) : Prop where
  own : OwnL w KA (arC vh nilS nilS a)
  r : Rd w vh [1]
  hd : Rd w vhd H
  st : Rd w vst SB
  nr : ∀ g, Value.inBlock vh = some g → g < KA
  nh : ∀ g, Value.inBlock vhd = some g → g < KA
  ns : ∀ g, Value.inBlock vst = some g → g < KA
theorem MadeAt.bm {w w' : World} {m KA : Nat} {vh : Value} {a : Ar} {vhd vst : Value} {H SB : List UInt8} (h : MadeAt w KA vh a vhd vst H SB) (hb : Below m w w') (hK : KA < m) : MadeAt w' KA vh a vhd vst H SB :=
  have ho : Only (fun i => m ≤ i) w w' := ⟨hb.os, hb.tape, hb.output, hb.size, fun i _ hp => hb.block i (Nat.lt_of_not_le hp)⟩
  ⟨h.own.only ho (by omega), h.r.only ho (fun g hg hp => by have := h.nr g hg; omega), h.hd.only ho (fun g hg hp => by have := h.nh g hg; omega), h.st.only ho (fun g hg hp => by have := h.ns g hg; omega), h.nr, h.nh, h.ns⟩
theorem MadeAt.set {w : World} {KA : Nat} {vh : Value} {a a' : Ar} {vhd vst : Value} {H SB : List UInt8} (h : MadeAt w KA vh a vhd vst H SB) (i : Nat) (v : Value) (hi : i < 40) (hl : a.verf.length = 8) (he : (arC vh nilS nilS a).set i v = arC vh nilS nilS a') : MadeAt (w.setCell ⟨KA, i, none⟩ v) KA vh a' vhd vst H SB :=
  have ho : Only (· = KA) w (w.setCell ⟨KA, i, none⟩ v) := (Only.refl (· = KA) w).setCell (p := ⟨KA, i, none⟩) (.inr rfl) v
  ⟨h.own.seta' i v (by rw [arC_len hl]; exact hi) he, h.r.only ho (fun g hg hp => by have := h.nr g hg; omega), h.hd.only ho (fun g hg hp => by have := h.nh g hg; omega), h.st.only ho (fun g hg hp => by have := h.ns g hg; omega), h.nr, h.nh, h.ns⟩
section
variable {w : World}
set_option maxRecDepth 100000 in
set_option maxHeartbeats 8000000 in
theorem LArgsMade {s : St} {vf tg : List UInt8} (hs : s.wf) (hv : vf.length = 8) (b1 : tg.length ≤ 9223372036854775807) : Calls Tryz.prog 7 #[eSet s, .agg (encV vf).toArray, strV tg] w fun e w' => e = .returned (.bool true) ∧ Below w.heap.size w w' := by
  have HS := Lib.hid hs
  obtain ⟨f0, f1, f2, f3, f4, f5, f6, f7, rfl⟩ := len8 hv
  have zt : (ByteArray.mk tg.toArray).size = tg.length := rfl
  simp only [eSet, St.cells]
  show Calls Tryz.prog 7 #[_, .agg #[.int .u8 (f0.toNat : Int), .int .u8 (f1.toNat : Int), .int .u8 (f2.toNat : Int), .int .u8 (f3.toNat : Int), .int .u8 (f4.toNat : Int), .int .u8 (f5.toNat : Int), .int .u8 (f6.toNat : Int), .int .u8 (f7.toNat : Int)], .string ⟨tg.toArray⟩] w _
  have HVf := Lib.hid (fun (w : World) v hr => Put_exc (w := w) (v := v) hv hr)
  clear hs hv
  go_enter Tryz.func7, Tryz.ntmps7
  go_upto_region 1 with fail
  refine wp_world (fun wx => OwnL wx w.heap.size [Value.bool s.hasMode, .int .u32 s.mode, .bool s.hasUser, .int .u32 s.user, .bool s.hasGroup, .int .u32 s.group, .bool s.hasSize, .int .u64 s.size, .int .u32 s.readHow, .int .u32 s.read.sec, .int .u32 s.read.nano, .int .u32 s.writeHow, .int .u32 s.write.sec, .int .u32 s.write.nano] ∧ OwnL wx (w.heap.size + 1) [Value.int .u8 (f0.toNat : Int), .int .u8 (f1.toNat : Int), .int .u8 (f2.toNat : Int), .int .u8 (f3.toNat : Int), .int .u8 (f4.toNat : Int), .int .u8 (f5.toNat : Int), .int .u8 (f6.toNat : Int), .int .u8 (f7.toNat : Int)] ∧ Below w.heap.size w wx) ⟨OwnL.new.alloc, ?_, by (with_reducible (repeat' (first | exact Below.refl _ _ | assumption | apply bl_alloc | apply bl_drewN | apply bl_drew | refine bl_set ?_ ?_ _))) <;> (first | done | (simp; done) | (simp; omega) | omega)⟩ ?_
  · have h := OwnL.new (w := w.alloc (.cells [Value.bool s.hasMode, .int .u32 s.mode, .bool s.hasUser, .int .u32 s.user, .bool s.hasGroup, .int .u32 s.group, .bool s.hasSize, .int .u64 s.size, .int .u32 s.readHow, .int .u32 s.read.sec, .int .u32 s.read.nano, .int .u32 s.writeHow, .int .u32 s.write.sec, .int .u32 s.write.nano].toArray 30)) (l := [Value.int .u8 (f0.toNat : Int), .int .u8 (f1.toNat : Int), .int .u8 (f2.toNat : Int), .int .u8 (f3.toNat : Int), .int .u8 (f4.toNat : Int), .int .u8 (f5.toNat : Int), .int .u8 (f6.toNat : Int), .int .u8 (f7.toNat : Int)]) (t := 31)
    have e : (w.alloc (.cells [Value.bool s.hasMode, .int .u32 s.mode, .bool s.hasUser, .int .u32 s.user, .bool s.hasGroup, .int .u32 s.group, .bool s.hasSize, .int .u64 s.size, .int .u32 s.readHow, .int .u32 s.read.sec, .int .u32 s.read.nano, .int .u32 s.writeHow, .int .u32 s.write.sec, .int .u32 s.write.nano].toArray 30)).heap.size = w.heap.size + 1 := by simp
    rw [e] at h
    exact h
  rintro w1 ⟨oS, oV, hB1⟩
  have HO := Lib.hid (⟨oS, oV⟩ : OwnL w1 w.heap.size [Value.bool s.hasMode, .int .u32 s.mode, .bool s.hasUser, .int .u32 s.user, .bool s.hasGroup, .int .u32 s.group, .bool s.hasSize, .int .u64 s.size, .int .u32 s.readHow, .int .u32 s.read.sec, .int .u32 s.read.nano, .int .u32 s.writeHow, .int .u32 s.write.sec, .int .u32 s.write.nano] ∧ OwnL w1 (w.heap.size + 1) [Value.int .u8 (f0.toNat : Int), .int .u8 (f1.toNat : Int), .int .u8 (f2.toNat : Int), .int .u8 (f3.toNat : Int), .int .u8 (f4.toNat : Int), .int .u8 (f5.toNat : Int), .int .u8 (f6.toNat : Int), .int .u8 (f7.toNat : Int)])
  have HB := Lib.hid hB1
  clear oS oV hB1
  by_cases hbig : tg.length ≤ 2000
  rotate_left
  · have hp : (tg.length : Int) > 2000 := by omega
    go_wp2_with (go_at_call 10; (refine Calls.mono alive_any ?_); rintro e w2 ⟨rfl, b2⟩; (have HB := Lib.hid (bl_then HB.out b2)); clear b2)
    go_ret
    exact ⟨rfl, HB.out⟩
  have hp : ¬ ((tg.length : Int) > 2000) := by omega
  go_upto_region 3 with (go_at_call 10; (refine Calls.mono alive_any ?_); rintro e w2 ⟨rfl, b2⟩; (have HO := Lib.hid (⟨HO.out.1.trk b2, HO.out.2.trk b2⟩ : OwnL w2 w.heap.size [Value.bool s.hasMode, .int .u32 s.mode, .bool s.hasUser, .int .u32 s.user, .bool s.hasGroup, .int .u32 s.group, .bool s.hasSize, .int .u64 s.size, .int .u32 s.readHow, .int .u32 s.read.sec, .int .u32 s.read.nano, .int .u32 s.writeHow, .int .u32 s.write.sec, .int .u32 s.write.nano] ∧ OwnL w2 (w.heap.size + 1) [Value.int .u8 (f0.toNat : Int), .int .u8 (f1.toNat : Int), .int .u8 (f2.toNat : Int), .int .u8 (f3.toNat : Int), .int .u8 (f4.toNat : Int), .int .u8 (f5.toNat : Int), .int .u8 (f6.toNat : Int), .int .u8 (f7.toNat : Int)])); (have HB := Lib.hid (bl_then HB.out b2)); clear b2)
  have HT := Lib.hid hbig
  clear hp hbig
  have hr1 : (∃ b, rSet s = .ok b) ∨ rSet s = .error 1 := by
    rcases h : rSet s with e | b
    · rw [e1_set s e h]; exact .inr rfl
    · exact .inl ⟨_, rfl⟩
  have HR1 := Lib.hid hr1
  clear hr1
  go_upto_region 4 with (first
    | (refine wpList_load_mid rfl 30 _ rfl w.heap.size 0 rfl [Value.bool s.hasMode, .int .u32 s.mode, .bool s.hasUser, .int .u32 s.user, .bool s.hasGroup, .int .u32 s.group, .bool s.hasSize, .int .u64 s.size, .int .u32 s.readHow, .int .u32 s.read.sec, .int .u32 s.read.nano, .int .u32 s.writeHow, .int .u32 s.write.sec, .int .u32 s.write.nano] _ HO.out.1.range Tryz.underlying30 rfl (by kernel_rfl) ?_)
    | (go_at_call 21; (refine Calls.mono (PutSet_any (s := s) HS.out) ?_); rintro e w3 hput; (obtain ⟨vst, est, SB, rfl, hcase, rst, b3⟩ := set_res hput HR1.out); (have HC := Lib.hid hcase); (have HSt := Lib.hid rst); (have HO := Lib.hid (⟨HO.out.1.trk b3, HO.out.2.trk b3⟩ : OwnL w3 w.heap.size [Value.bool s.hasMode, .int .u32 s.mode, .bool s.hasUser, .int .u32 s.user, .bool s.hasGroup, .int .u32 s.group, .bool s.hasSize, .int .u64 s.size, .int .u32 s.readHow, .int .u32 s.read.sec, .int .u32 s.read.nano, .int .u32 s.writeHow, .int .u32 s.write.sec, .int .u32 s.write.nano] ∧ OwnL w3 (w.heap.size + 1) [Value.int .u8 (f0.toNat : Int), .int .u8 (f1.toNat : Int), .int .u8 (f2.toNat : Int), .int .u8 (f3.toNat : Int), .int .u8 (f4.toNat : Int), .int .u8 (f5.toNat : Int), .int .u8 (f6.toNat : Int), .int .u8 (f7.toNat : Int)])); (have HB := Lib.hid (bl_then HB.out b3)); clear hput hcase rst b3))
  go_upto_region 5 with (first
    | (go_at_call 17; (refine Calls.mono (OPut_any (rd_one _) (by decide)) ?_); rintro e w4 ⟨v4, rfl, o4, b4⟩; (have HO4 := Lib.hid o4); (have Hs4 := Lib.hid b4.size); (have HB4 := Lib.hid (bl_then (bl_alloc (Below.refl w3.heap.size w3) (.cells #[.int .u8 1] 5)) b4)); clear o4 b4)
    | (go_at_call 18; (refine Calls.mono (SPut_any (xs := [110]) (by decide)) ?_); rintro e w5 ⟨v5, rfl, o5, b5⟩; (have HO5 := Lib.hid o5); (have HO4 := Lib.hid (HO4.out.below b5)); (have Hs5 := Lib.hid (Nat.le_trans Hs4.out b5.size)); (have HB5 := Lib.hid (bl_then HB4.out b5)); clear o5 b5)
    | (at_builtin; go_loud (refine wp_append_rd rfl _ _ rfl rfl rfl HO4.out HO5.out.rd (by decide) Hs5.out ?_; intro v6 w6 o6 _ b6; (have HB6 := Lib.hid (HB5.out.trans (b6.mono (by simp)))); (have HHd := Lib.hid (show Rd w6 v6 (opqB [1] ++ opqB [110]) from o6.rd)); clear o6 b6)))
  have HO := Lib.hid (⟨HO.out.1.trk HB6.out, HO.out.2.trk HB6.out⟩ : OwnL w6 w.heap.size [Value.bool s.hasMode, .int .u32 s.mode, .bool s.hasUser, .int .u32 s.user, .bool s.hasGroup, .int .u32 s.group, .bool s.hasSize, .int .u64 s.size, .int .u32 s.readHow, .int .u32 s.read.sec, .int .u32 s.read.nano, .int .u32 s.writeHow, .int .u32 s.write.sec, .int .u32 s.write.nano] ∧ OwnL w6 (w.heap.size + 1) [Value.int .u8 (f0.toNat : Int), .int .u8 (f1.toNat : Int), .int .u8 (f2.toNat : Int), .int .u8 (f3.toNat : Int), .int .u8 (f4.toNat : Int), .int .u8 (f5.toNat : Int), .int .u8 (f6.toNat : Int), .int .u8 (f7.toNat : Int)])
  have HSt := Lib.hid (HSt.out.below HB6.out)
  have HB := Lib.hid (bl_then HB.out HB6.out)
  clear HO4 HO5 HB4 HB5 HB6 Hs4 Hs5
  generalize Value.slice (some ⟨w3.heap.size, 0, none⟩) 1 1 = g32
  generalize v4 = g33
  generalize v5 = g34
  have HOld := Lib.hid (show w.heap.size + 1 < w6.heap.size from HO.out.2.1)
  go_upto_region 6 with (first
    | (refine wpList_load_mid rfl 30 _ rfl w.heap.size 0 rfl [Value.bool s.hasMode, .int .u32 s.mode, .bool s.hasUser, .int .u32 s.user, .bool s.hasGroup, .int .u32 s.group, .bool s.hasSize, .int .u64 s.size, .int .u32 s.readHow, .int .u32 s.read.sec, .int .u32 s.read.nano, .int .u32 s.writeHow, .int .u32 s.write.sec, .int .u32 s.write.nano] _ (HO.out.1.alloc).range Tryz.underlying30 rfl (by kernel_rfl) ?_; (obtain ⟨wa6, hwa6⟩ : ∃ x, w6.alloc (.cells #[.int .u8 1] 5) = x := ⟨_, rfl⟩); (rw [hwa6]); (have HA6 := Lib.hid hwa6); clear hwa6)
    | (refine wpList_store_new rfl 33 _ _ rfl (arC (.slice (some ⟨w6.heap.size, 0, none⟩) 1 1) nilS nilS {Ar.zero 0 with h := [1], name := [110], set := s}) rfl rfl (by kernel_rfl) (by kernel_rfl) (arC_one rfl rfl rfl) ?_; intro w7 b7 oA; (have HB7 := Lib.hid b7); (have HB7b := Lib.hid b7); clear b7))
  have ba6 : Below w6.heap.size w6 wa6 := HA6.out ▸ bl_alloc (Below.refl w6.heap.size w6) (.cells #[.int .u8 1] 5)
  have ra6 : Rd wa6 (.slice (some ⟨w6.heap.size, 0, none⟩) 1 1) [1] := HA6.out ▸ rd_one w6
  have eK : wa6.heap.size = w6.heap.size + 1 := by rw [← HA6.out]; simp
  have HB7 := Lib.hid (bl_then ba6 HB7.out)
  have HR7 := Lib.hid (ra6.below (show Below wa6.heap.size wa6 w7 from HB7b.out))
  have hn6 := Lib.hid (show (∀ g, Value.inBlock v6 = some g → g < wa6.heap.size) ∧ (∀ g, Value.inBlock vst = some g → g < wa6.heap.size) from ⟨fun g hg => by have := rd_block HHd.out hg; omega, fun g hg => by have := rd_block HSt.out hg; omega⟩)
  have HM := Lib.hid (⟨oA, HR7.out, HHd.out.below HB7.out, HSt.out.below HB7.out, fun g hg => by (have hg : w6.heap.size = g := by simpa [Value.inBlock] using hg); omega, hn6.out.1, hn6.out.2⟩ : MadeAt w7 _ _ {Ar.zero 0 with h := [1], name := [110], set := s} v6 vst (opqB [1] ++ opqB [110]) SB)
  have HO := Lib.hid (HO.out.2.trk HB7.out)
  have HBw := Lib.hid (bl_then HB.out HB7.out)
  have hKw : w.heap.size + 1 < wa6.heap.size := by have := HOld.out; omega
  have hlt7 : wa6.heap.size < w7.heap.size := oA.1
  clear HB HB7 HB7b HR7 HSt HHd oA HR1 eK hn6 HOld ba6 ra6 HA6
  generalize Value.slice (some ⟨w6.heap.size, 0, none⟩) 1 1 = vh at *
  generalize wa6.heap.size = KA at *
  go_wp2_with fail
  rcases HC.out with ⟨rfl, hset⟩ | ⟨rfl, hSB, hset⟩
  · have HSet := Lib.hid hset
    have HSB := Lib.hid (show SB.length ≤ 40000 from len_set _ hset)
    clear hset HC
    refine wp_loop_rounds 5 ?_
    rw [rounds_succ]
    have hlW : KA < w7.heap.size := HM.out.own.1
    go_upto_region 10 with (first
      | (go_at_call 20; (refine Calls.mono (Put_any 0 (by decide) _) ?_); rintro e wb ⟨vb, rfl, ob, bb⟩; (have HOa := Lib.hid (HOa.out.below bb)); (have HOb := Lib.hid ob); (have HBa := Lib.hid (bl_then HBa.out bb)); clear ob bb)
      | (at_builtin; (refine wp_append_rd rfl _ _ rfl rfl rfl (OwnB.nil _ w7.heap.size) HM.out.hd (by decide) (Nat.le_refl _) ?_; intro va wa oa _ ba; (have HOa := Lib.hid oa); (have HBa := Lib.hid ba); clear oa ba))
      | (at_builtin; (refine wp_append_rd rfl _ _ rfl rfl rfl HOa.out HOb.out.rd (by decide) HBa.out.size ?_; intro vc wc oc _ bc; (have HOc := Lib.hid oc); (have HBc := Lib.hid (HBa.out.trans bc)); clear oc bc)))
    have HM := Lib.hid (HM.out.bm HBc.out hlW)
    have HBw := Lib.hid (HBw.out.trans (HBc.out.mono (by omega)))
    have HO := Lib.hid (HO.out.belowm HBc.out (by omega))
    have hsz := HBc.out.size
    clear HOa HOb HBa HBc
    have c0 : wc.cell? ⟨KA, 0, none⟩ = some (.int .u32 0) := HM.out.own.2.1 0
    have f0 : wc.frozen? ⟨KA, 0, none⟩ = false := HM.out.own.2.2 0
    have c2 : wc.cell? ⟨KA, 29, none⟩ = some (.int .u32 0) := HM.out.own.2.1 29
    have f2 : wc.frozen? ⟨KA, 29, none⟩ = false := HM.out.own.2.2 29
    go_upto_region 23 with fail
    have HM := Lib.hid ((HM.out.set (a' := {Ar.zero 8 with h := [1], name := [110], set := s}) 0 (.int .u32 8) (by decide) rfl (by kernel_rfl)).set (a' := {Ar.zero 8 with h := [1], name := [110], set := s}) 29 (.int .u32 0) (by decide) rfl (by kernel_rfl))
    have HBw := Lib.hid (bl_set (bl_set HBw.out (p := ⟨KA, 0, none⟩) (by show _ ≤ KA; omega) (.int .u32 8)) (p := ⟨KA, 29, none⟩) (by show _ ≤ KA; omega) (.int .u32 0))
    have HO := Lib.hid ((HO.out.other (p := ⟨KA, 0, none⟩) (by show _ ≠ KA; omega) (v := .int .u32 8)).other (p := ⟨KA, 29, none⟩) (by show _ ≠ KA; omega) (v := .int .u32 0))
    have HOc := Lib.hid ((HOc.out.set (p := ⟨KA, 0, none⟩) hlW (.int .u32 8)).set (p := ⟨KA, 29, none⟩) hlW (.int .u32 0))
    have hle : w7.heap.size ≤ ((wc.setCell ⟨KA, 0, none⟩ (.int .u32 8)).setCell ⟨KA, 29, none⟩ (.int .u32 0)).heap.size := by simpa using hsz
    clear c0 f0 c2 f2
    obtain ⟨wd, hwd⟩ : ∃ x, (wc.setCell ⟨KA, 0, none⟩ (.int .u32 8)).setCell ⟨KA, 29, none⟩ (.int .u32 0) = x := ⟨_, rfl⟩
    rw [hwd] at HM HBw HO HOc hle ⊢
    clear hwd
    go_upto_region 24 with (at_builtin; go_loud (refine wp_append_rd rfl _ _ rfl rfl rfl HOc.out HM.out.st (show ([] ++ (opqB [1] ++ opqB [110]) ++ put4 0).length + SB.length ≤ 1099511627776 by have := HSB.out; have : ([] ++ (opqB [1] ++ opqB [110]) ++ put4 0).length ≤ 100 := (by decide); omega) hle ?_; intro ve we oe _ be; (have HOe := Lib.hid oe); (have HBe := Lib.hid be); clear oe be))
    have HM := Lib.hid (HM.out.bm HBe.out hlW)
    have HBw := Lib.hid (HBw.out.trans (HBe.out.mono (by omega)))
    have HO := Lib.hid (HO.out.belowm HBe.out (by omega))
    have hle := Nat.le_trans hle HBe.out.size
    clear HBe HOc
    have hoe := HOe.out
    obtain ⟨Ae, ke, rfl, _, _, _⟩ := hoe.rd.bs
    obtain ⟨Ne, hNe⟩ : ∃ n, ([] ++ (opqB [1] ++ opqB [110]) ++ put4 0 ++ SB).length = n := ⟨_, rfl⟩
    rw [hNe] at hoe ⊢
    have HOe := Lib.hid hoe
    have HNe := Lib.hid hNe
    clear hoe hNe
    have hpt : putA {Ar.zero 8 with h := [1], name := [110], set := s} = .ok (opqB [1] ++ (opqB [110] ++ (put4 0 ++ SB))) := by have h := put_create (i := 0) HS.out (by decide); rw [HSet.out] at h; exact h
    have HPt := Lib.hid hpt
    clear hpt
    go_upto_region 27 with (first
      | (refine wpList_load_mid rfl 33 _ rfl KA 0 rfl (arC vh nilS nilS {Ar.zero 8 with h := [1], name := [110], set := s}) _ HM.out.own.range Tryz.underlying33 rfl (by kernel_rfl) ?_)
      | (go_at_call 12; (refine Calls.mono (Put_ok (a := {Ar.zero 8 with h := [1], name := [110], set := s}) ⟨show (8 : Nat) < 4294967296 by decide, HS.out, z1, z3, z2, z3, z3, z3, show (0 : Nat) < 4294967296 by decide, z3, rfl, z2⟩ rfl rfl rfl HPt.out HM.out.r) ?_); rintro e wg ⟨vg, rfl, og, bg⟩; (have hog := og.rd); (rw [show opqB [1] ++ (opqB [110] ++ (put4 0 ++ SB)) = [] ++ (opqB [1] ++ opqB [110]) ++ put4 0 ++ SB from by simp only [List.nil_append, List.append_assoc]] at hog); (obtain ⟨Ag, kg, rfl, _, _, _⟩ := hog.bs); (rw [HNe.out] at hog ⊢); (have HRg := Lib.hid hog); (have HOe := Lib.hid (HOe.out.below bg)); (have HM := Lib.hid (HM.out.bm bg HM.out.own.1)); (have HBw := Lib.hid (bl_then HBw.out bg)); (have HO := Lib.hid (HO.out.trk bg)); clear og bg hog))
    go_wp2_with (go_at_call 15; ((with_reducible refine Calls.mono (Same_rd' HRg.out HOe.out.rd rfl) ?_); rintro e wt0 ⟨rfl, bt⟩); (have HM := Lib.hid (HM.out.bm bt HM.out.own.1)); (have HBw := Lib.hid (bl_then HBw.out bt)); (have HO := Lib.hid (HO.out.trk bt)); clear bt)
    clear HPt HNe HRg HOe
    clear hle
    rw [rounds_succ]
    have hlW : KA < wt0.heap.size := HM.out.own.1
    go_upto_region 10 with (first
      | (go_at_call 20; (refine Calls.mono (Put_any 1 (by decide) _) ?_); rintro e wb ⟨vb, rfl, ob, bb⟩; (have HOa := Lib.hid (HOa.out.below bb)); (have HOb := Lib.hid ob); (have HBa := Lib.hid (bl_then HBa.out bb)); clear ob bb)
      | (at_builtin; (refine wp_append_rd rfl _ _ rfl rfl rfl (OwnB.nil _ wt0.heap.size) HM.out.hd (by decide) (Nat.le_refl _) ?_; intro va wa oa _ ba; (have HOa := Lib.hid oa); (have HBa := Lib.hid ba); clear oa ba))
      | (at_builtin; (refine wp_append_rd rfl _ _ rfl rfl rfl HOa.out HOb.out.rd (by decide) HBa.out.size ?_; intro vc wc oc _ bc; (have HOc := Lib.hid oc); (have HBc := Lib.hid (HBa.out.trans bc)); clear oc bc)))
    have HM := Lib.hid (HM.out.bm HBc.out hlW)
    have HBw := Lib.hid (HBw.out.trans (HBc.out.mono (by omega)))
    have HO := Lib.hid (HO.out.belowm HBc.out (by omega))
    have hsz := HBc.out.size
    clear HOa HOb HBa HBc
    have c0 : wc.cell? ⟨KA, 0, none⟩ = some (.int .u32 8) := HM.out.own.2.1 0
    have f0 : wc.frozen? ⟨KA, 0, none⟩ = false := HM.out.own.2.2 0
    have c2 : wc.cell? ⟨KA, 29, none⟩ = some (.int .u32 0) := HM.out.own.2.1 29
    have f2 : wc.frozen? ⟨KA, 29, none⟩ = false := HM.out.own.2.2 29
    go_upto_region 23 with fail
    have HM := Lib.hid ((HM.out.set (a' := {Ar.zero 8 with h := [1], name := [110], set := s}) 0 (.int .u32 8) (by decide) rfl (by kernel_rfl)).set (a' := {Ar.zero 8 with h := [1], name := [110], set := s, how := 1}) 29 (.int .u32 1) (by decide) rfl (by kernel_rfl))
    have HBw := Lib.hid (bl_set (bl_set HBw.out (p := ⟨KA, 0, none⟩) (by show _ ≤ KA; omega) (.int .u32 8)) (p := ⟨KA, 29, none⟩) (by show _ ≤ KA; omega) (.int .u32 1))
    have HO := Lib.hid ((HO.out.other (p := ⟨KA, 0, none⟩) (by show _ ≠ KA; omega) (v := .int .u32 8)).other (p := ⟨KA, 29, none⟩) (by show _ ≠ KA; omega) (v := .int .u32 1))
    have HOc := Lib.hid ((HOc.out.set (p := ⟨KA, 0, none⟩) hlW (.int .u32 8)).set (p := ⟨KA, 29, none⟩) hlW (.int .u32 1))
    have hle : wt0.heap.size ≤ ((wc.setCell ⟨KA, 0, none⟩ (.int .u32 8)).setCell ⟨KA, 29, none⟩ (.int .u32 1)).heap.size := by simpa using hsz
    clear c0 f0 c2 f2
    obtain ⟨wd, hwd⟩ : ∃ x, (wc.setCell ⟨KA, 0, none⟩ (.int .u32 8)).setCell ⟨KA, 29, none⟩ (.int .u32 1) = x := ⟨_, rfl⟩
    rw [hwd] at HM HBw HO HOc hle ⊢
    clear hwd
    go_upto_region 24 with (at_builtin; go_loud (refine wp_append_rd rfl _ _ rfl rfl rfl HOc.out HM.out.st (show ([] ++ (opqB [1] ++ opqB [110]) ++ put4 1).length + SB.length ≤ 1099511627776 by have := HSB.out; have : ([] ++ (opqB [1] ++ opqB [110]) ++ put4 1).length ≤ 100 := (by decide); omega) hle ?_; intro ve we oe _ be; (have HOe := Lib.hid oe); (have HBe := Lib.hid be); clear oe be))
    have HM := Lib.hid (HM.out.bm HBe.out hlW)
    have HBw := Lib.hid (HBw.out.trans (HBe.out.mono (by omega)))
    have HO := Lib.hid (HO.out.belowm HBe.out (by omega))
    have hle := Nat.le_trans hle HBe.out.size
    clear HBe HOc
    have hoe := HOe.out
    obtain ⟨Ae, ke, rfl, _, _, _⟩ := hoe.rd.bs
    obtain ⟨Ne, hNe⟩ : ∃ n, ([] ++ (opqB [1] ++ opqB [110]) ++ put4 1 ++ SB).length = n := ⟨_, rfl⟩
    rw [hNe] at hoe ⊢
    have HOe := Lib.hid hoe
    have HNe := Lib.hid hNe
    clear hoe hNe
    have hpt : putA {Ar.zero 8 with h := [1], name := [110], set := s, how := 1} = .ok (opqB [1] ++ (opqB [110] ++ (put4 1 ++ SB))) := by have h := put_create (i := 1) HS.out (by decide); rw [HSet.out] at h; exact h
    have HPt := Lib.hid hpt
    clear hpt
    go_upto_region 27 with (first
      | (refine wpList_load_mid rfl 33 _ rfl KA 0 rfl (arC vh nilS nilS {Ar.zero 8 with h := [1], name := [110], set := s, how := 1}) _ HM.out.own.range Tryz.underlying33 rfl (by kernel_rfl) ?_)
      | (go_at_call 12; (refine Calls.mono (Put_ok (a := {Ar.zero 8 with h := [1], name := [110], set := s, how := 1}) ⟨show (8 : Nat) < 4294967296 by decide, HS.out, z1, z3, z2, z3, z3, z3, show (1 : Nat) < 4294967296 by decide, z3, rfl, z2⟩ rfl rfl rfl HPt.out HM.out.r) ?_); rintro e wg ⟨vg, rfl, og, bg⟩; (have hog := og.rd); (rw [show opqB [1] ++ (opqB [110] ++ (put4 1 ++ SB)) = [] ++ (opqB [1] ++ opqB [110]) ++ put4 1 ++ SB from by simp only [List.nil_append, List.append_assoc]] at hog); (obtain ⟨Ag, kg, rfl, _, _, _⟩ := hog.bs); (rw [HNe.out] at hog ⊢); (have HRg := Lib.hid hog); (have HOe := Lib.hid (HOe.out.below bg)); (have HM := Lib.hid (HM.out.bm bg HM.out.own.1)); (have HBw := Lib.hid (bl_then HBw.out bg)); (have HO := Lib.hid (HO.out.trk bg)); clear og bg hog))
    go_wp2_with (go_at_call 15; ((with_reducible refine Calls.mono (Same_rd' HRg.out HOe.out.rd rfl) ?_); rintro e wt1 ⟨rfl, bt⟩); (have HM := Lib.hid (HM.out.bm bt HM.out.own.1)); (have HBw := Lib.hid (bl_then HBw.out bt)); (have HO := Lib.hid (HO.out.trk bt)); clear bt)
    clear HPt HNe HRg HOe
    clear hle
    rw [rounds_succ]
    have hlW : KA < wt1.heap.size := HM.out.own.1
    go_upto_region 10 with (first
      | (go_at_call 20; (refine Calls.mono (Put_any 2 (by decide) _) ?_); rintro e wb ⟨vb, rfl, ob, bb⟩; (have HOa := Lib.hid (HOa.out.below bb)); (have HOb := Lib.hid ob); (have HBa := Lib.hid (bl_then HBa.out bb)); clear ob bb)
      | (at_builtin; (refine wp_append_rd rfl _ _ rfl rfl rfl (OwnB.nil _ wt1.heap.size) HM.out.hd (by decide) (Nat.le_refl _) ?_; intro va wa oa _ ba; (have HOa := Lib.hid oa); (have HBa := Lib.hid ba); clear oa ba))
      | (at_builtin; (refine wp_append_rd rfl _ _ rfl rfl rfl HOa.out HOb.out.rd (by decide) HBa.out.size ?_; intro vc wc oc _ bc; (have HOc := Lib.hid oc); (have HBc := Lib.hid (HBa.out.trans bc)); clear oc bc)))
    have HM := Lib.hid (HM.out.bm HBc.out hlW)
    have HBw := Lib.hid (HBw.out.trans (HBc.out.mono (by omega)))
    have HO := Lib.hid (HO.out.belowm HBc.out (by omega))
    have hsz := HBc.out.size
    clear HOa HOb HBa HBc
    have c0 : wc.cell? ⟨KA, 0, none⟩ = some (.int .u32 8) := HM.out.own.2.1 0
    have f0 : wc.frozen? ⟨KA, 0, none⟩ = false := HM.out.own.2.2 0
    have c2 : wc.cell? ⟨KA, 29, none⟩ = some (.int .u32 1) := HM.out.own.2.1 29
    have f2 : wc.frozen? ⟨KA, 29, none⟩ = false := HM.out.own.2.2 29
    go_upto_region 18 with fail
    have HM := Lib.hid ((HM.out.set (a' := {Ar.zero 9 with h := [1], name := [110], set := s, how := 1}) 0 (.int .u32 9) (by decide) rfl (by kernel_rfl)).set (a' := {Ar.zero 9 with h := [1], name := [110], set := s}) 29 (.int .u32 0) (by decide) rfl (by kernel_rfl))
    have HBw := Lib.hid (bl_set (bl_set HBw.out (p := ⟨KA, 0, none⟩) (by show _ ≤ KA; omega) (.int .u32 9)) (p := ⟨KA, 29, none⟩) (by show _ ≤ KA; omega) (.int .u32 0))
    have HO := Lib.hid ((HO.out.other (p := ⟨KA, 0, none⟩) (by show _ ≠ KA; omega) (v := .int .u32 9)).other (p := ⟨KA, 29, none⟩) (by show _ ≠ KA; omega) (v := .int .u32 0))
    clear HOc
    clear c0 f0 c2 f2
    obtain ⟨wd, hwd⟩ : ∃ x, (wc.setCell ⟨KA, 0, none⟩ (.int .u32 9)).setCell ⟨KA, 29, none⟩ (.int .u32 0) = x := ⟨_, rfl⟩
    rw [hwd] at HM HBw HO ⊢
    clear hwd
    have hlD : KA < wd.heap.size := HM.out.own.1
    go_upto_region 23 with (at_builtin; (refine wp_append_rd rfl _ _ rfl rfl rfl (OwnB.nil _ wd.heap.size) HM.out.hd (by decide) (Nat.le_refl _) ?_; intro vx wx ox _ bx; (have HOc := Lib.hid ox); (have HBx := Lib.hid bx); clear ox bx))
    have HM := Lib.hid (HM.out.bm HBx.out hlD)
    have HBw := Lib.hid (HBw.out.trans (HBx.out.mono (by omega)))
    have HO := Lib.hid (HO.out.belowm HBx.out (by omega))
    have hle := HBx.out.size
    clear HBx
    go_upto_region 24 with (at_builtin; go_loud (refine wp_append_rd rfl _ _ rfl rfl rfl HOc.out HM.out.st (show ([] ++ (opqB [1] ++ opqB [110])).length + SB.length ≤ 1099511627776 by have := HSB.out; have : ([] ++ (opqB [1] ++ opqB [110])).length ≤ 100 := (by decide); omega) hle ?_; intro ve we oe _ be; (have HOe := Lib.hid oe); (have HBe := Lib.hid be); clear oe be))
    have HM := Lib.hid (HM.out.bm HBe.out hlD)
    have HBw := Lib.hid (HBw.out.trans (HBe.out.mono (by omega)))
    have HO := Lib.hid (HO.out.belowm HBe.out (by omega))
    have hle := Nat.le_trans hle HBe.out.size
    clear HBe HOc
    have hoe := HOe.out
    obtain ⟨Ae, ke, rfl, _, _, _⟩ := hoe.rd.bs
    obtain ⟨Ne, hNe⟩ : ∃ n, ([] ++ (opqB [1] ++ opqB [110]) ++ SB).length = n := ⟨_, rfl⟩
    rw [hNe] at hoe ⊢
    have HOe := Lib.hid hoe
    have HNe := Lib.hid hNe
    clear hoe hNe
    have hpt : putA {Ar.zero 9 with h := [1], name := [110], set := s} = .ok (opqB [1] ++ (opqB [110] ++ SB)) := by have h := put_made HS.out (rfl : (9 : Nat) = 9); rw [HSet.out] at h; exact h
    have HPt := Lib.hid hpt
    clear hpt
    go_upto_region 27 with (first
      | (refine wpList_load_mid rfl 33 _ rfl KA 0 rfl (arC vh nilS nilS {Ar.zero 9 with h := [1], name := [110], set := s}) _ HM.out.own.range Tryz.underlying33 rfl (by kernel_rfl) ?_)
      | (go_at_call 12; (refine Calls.mono (Put_ok (a := {Ar.zero 9 with h := [1], name := [110], set := s}) ⟨show (9 : Nat) < 4294967296 by decide, HS.out, z1, z3, z2, z3, z3, z3, show (0 : Nat) < 4294967296 by decide, z3, rfl, z2⟩ rfl rfl rfl HPt.out HM.out.r) ?_); rintro e wg ⟨vg, rfl, og, bg⟩; (have hog := og.rd); (rw [show opqB [1] ++ (opqB [110] ++ SB) = [] ++ (opqB [1] ++ opqB [110]) ++ SB from by simp only [List.nil_append, List.append_assoc]] at hog); (obtain ⟨Ag, kg, rfl, _, _, _⟩ := hog.bs); (rw [HNe.out] at hog ⊢); (have HRg := Lib.hid hog); (have HOe := Lib.hid (HOe.out.below bg)); (have HM := Lib.hid (HM.out.bm bg HM.out.own.1)); (have HBw := Lib.hid (bl_then HBw.out bg)); (have HO := Lib.hid (HO.out.trk bg)); clear og bg hog))
    go_wp2_with (go_at_call 15; ((with_reducible refine Calls.mono (Same_rd' HRg.out HOe.out.rd rfl) ?_); rintro e wt2 ⟨rfl, bt⟩); (have HM := Lib.hid (HM.out.bm bt HM.out.own.1)); (have HBw := Lib.hid (bl_then HBw.out bt)); (have HO := Lib.hid (HO.out.trk bt)); clear bt)
    clear HPt HNe HRg HOe
    clear hle
    rw [rounds_succ]
    have hlW : KA < wt2.heap.size := HM.out.own.1
    go_upto_region 10 with (first
      | (go_at_call 20; (refine Calls.mono (Put_any 3 (by decide) _) ?_); rintro e wb ⟨vb, rfl, ob, bb⟩; (have HOa := Lib.hid (HOa.out.below bb)); (have HOb := Lib.hid ob); (have HBa := Lib.hid (bl_then HBa.out bb)); clear ob bb)
      | (at_builtin; (refine wp_append_rd rfl _ _ rfl rfl rfl (OwnB.nil _ wt2.heap.size) HM.out.hd (by decide) (Nat.le_refl _) ?_; intro va wa oa _ ba; (have HOa := Lib.hid oa); (have HBa := Lib.hid ba); clear oa ba))
      | (at_builtin; (refine wp_append_rd rfl _ _ rfl rfl rfl HOa.out HOb.out.rd (by decide) HBa.out.size ?_; intro vc wc oc _ bc; (have HOc := Lib.hid oc); (have HBc := Lib.hid (HBa.out.trans bc)); clear oc bc)))
    have HM := Lib.hid (HM.out.bm HBc.out hlW)
    have HBw := Lib.hid (HBw.out.trans (HBc.out.mono (by omega)))
    have HO := Lib.hid (HO.out.belowm HBc.out (by omega))
    have hsz := HBc.out.size
    clear HOa HOb HBa HBc
    have c0 : wc.cell? ⟨KA, 0, none⟩ = some (.int .u32 9) := HM.out.own.2.1 0
    have f0 : wc.frozen? ⟨KA, 0, none⟩ = false := HM.out.own.2.2 0
    have c2 : wc.cell? ⟨KA, 28, none⟩ = some (.string ⟨#[]⟩) := HM.out.own.2.1 28
    have f2 : wc.frozen? ⟨KA, 28, none⟩ = false := HM.out.own.2.2 28
    go_upto_region 22 with fail
    have HM := Lib.hid ((HM.out.set (a' := {Ar.zero 10 with h := [1], name := [110], set := s}) 0 (.int .u32 10) (by decide) rfl (by kernel_rfl)).set (a' := {Ar.zero 10 with h := [1], name := [110], set := s, target := tg}) 28 (.string ⟨tg.toArray⟩) (by decide) rfl (by kernel_rfl))
    have HBw := Lib.hid (bl_set (bl_set HBw.out (p := ⟨KA, 0, none⟩) (by show _ ≤ KA; omega) (.int .u32 10)) (p := ⟨KA, 28, none⟩) (by show _ ≤ KA; omega) (.string ⟨tg.toArray⟩))
    have HO := Lib.hid ((HO.out.other (p := ⟨KA, 0, none⟩) (by show _ ≠ KA; omega) (v := .int .u32 10)).other (p := ⟨KA, 28, none⟩) (by show _ ≠ KA; omega) (v := .string ⟨tg.toArray⟩))
    clear HOc
    clear c0 f0 c2 f2
    obtain ⟨wd, hwd⟩ : ∃ x, (wc.setCell ⟨KA, 0, none⟩ (.int .u32 10)).setCell ⟨KA, 28, none⟩ (.string ⟨tg.toArray⟩) = x := ⟨_, rfl⟩
    rw [hwd] at HM HBw HO ⊢
    clear hwd
    have hlD : KA < wd.heap.size := HM.out.own.1
    go_upto_region 23 with (at_builtin; (refine wp_append_rd rfl _ _ rfl rfl rfl (OwnB.nil _ wd.heap.size) HM.out.hd (by decide) (Nat.le_refl _) ?_; intro vx wx ox _ bx; (have HOc := Lib.hid ox); (have HBx := Lib.hid bx); clear ox bx))
    have HM := Lib.hid (HM.out.bm HBx.out hlD)
    have HBw := Lib.hid (HBw.out.trans (HBx.out.mono (by omega)))
    have HO := Lib.hid (HO.out.belowm HBx.out (by omega))
    have hle := HBx.out.size
    clear HBx
    go_upto_region 24 with (at_builtin; go_loud (refine wp_append_rd rfl _ _ rfl rfl rfl HOc.out HM.out.st (show ([] ++ (opqB [1] ++ opqB [110])).length + SB.length ≤ 1099511627776 by have := HSB.out; have : ([] ++ (opqB [1] ++ opqB [110])).length ≤ 100 := (by decide); omega) hle ?_; intro ve we oe _ be; (have HOe := Lib.hid oe); (have HBe := Lib.hid be); clear oe be))
    have HM := Lib.hid (HM.out.bm HBe.out hlD)
    have HBw := Lib.hid (HBw.out.trans (HBe.out.mono (by omega)))
    have HO := Lib.hid (HO.out.belowm HBe.out (by omega))
    have hle := Nat.le_trans hle HBe.out.size
    clear HBe HOc
    by_cases g9 : tg.length ≤ 1024
    · have hgt : decide ((tg.length : Int) ≤ 1024) = true := by simp; omega
      have hpt : putA {Ar.zero 10 with h := [1], name := [110], set := s, target := tg} = .ok (opqB [1] ++ (opqB [110] ++ (SB ++ opqB tg))) := by have h := put_symlink (target := tg) HS.out; rw [HSet.out] at h; dsimp only at h; rw [if_pos g9] at h; exact h
      have HPt := Lib.hid hpt
      clear hpt
      have HTl := Lib.hid (show tg.length ≤ 1900000 by have := HT.out; omega)
      go_upto_region 26 with (first
        | (go_at_call 18; (refine Calls.mono (SPut_any (xs := tg) HTl.out) ?_); rintro e wk ⟨vk, rfl, ok_, bk⟩; (have HOk := Lib.hid ok_); (have HOe := Lib.hid (HOe.out.below bk)); (have hle := Nat.le_trans hle bk.size); (have HM := Lib.hid (HM.out.bm bk HM.out.own.1)); (have HBw := Lib.hid (bl_then HBw.out bk)); (have HO := Lib.hid (HO.out.trk bk)); clear ok_ bk)
        | (at_builtin; go_loud (refine wp_append_rd rfl _ _ rfl rfl rfl HOe.out HOk.out.rd (show ([] ++ (opqB [1] ++ opqB [110]) ++ SB).length + (put4 tg.length ++ qCut tg).length ≤ 1099511627776 by have := HSB.out; have := HT.out; have : ([] ++ (opqB [1] ++ opqB [110])).length ≤ 100 := (by decide); simp only [List.length_append, put4_length, qCut_length] at *; unfold padN; omega) hle ?_; intro vj wj oj _ bj; (have HOj := Lib.hid oj); (have HM := Lib.hid (HM.out.bm bj hlD)); (have HBw := Lib.hid (HBw.out.trans (bj.mono (by omega)))); (have HO := Lib.hid (HO.out.belowm bj (by omega))); clear oj bj)))
      clear HOe HOk hle
      have hoj := HOj.out
      obtain ⟨Aj, kj, rfl, _, _, _⟩ := hoj.rd.bs
      obtain ⟨Nj, hNj⟩ : ∃ n, ([] ++ (opqB [1] ++ opqB [110]) ++ SB ++ (put4 tg.length ++ qCut tg)).length = n := ⟨_, rfl⟩
      rw [hNj] at hoj ⊢
      have HOj := Lib.hid hoj
      have HNj := Lib.hid hNj
      clear hoj hNj
      go_upto_region 27 with (first
        | (refine wpList_load_mid rfl 33 _ rfl KA 0 rfl (arC vh nilS nilS {Ar.zero 10 with h := [1], name := [110], set := s, target := tg}) _ HM.out.own.range Tryz.underlying33 rfl (by kernel_rfl) ?_)
        | (go_at_call 12; (refine Calls.mono (Put_ok (a := {Ar.zero 10 with h := [1], name := [110], set := s, target := tg}) ⟨show (10 : Nat) < 4294967296 by decide, HS.out, z1, z3, z2, z3, z3, z3, show (0 : Nat) < 4294967296 by decide, z3, rfl, z2⟩ rfl rfl rfl HPt.out HM.out.r) ?_); rintro e wg ⟨vg, rfl, og, bg⟩; (have hog := og.rd); (rw [show opqB [1] ++ (opqB [110] ++ (SB ++ opqB tg)) = [] ++ (opqB [1] ++ opqB [110]) ++ SB ++ (put4 tg.length ++ qCut tg) from by simp only [List.nil_append, List.append_assoc, opqB]] at hog); (obtain ⟨Ag, kg, rfl, _, _, _⟩ := hog.bs); (rw [HNj.out] at hog ⊢); (have HRg := Lib.hid hog); (have HOj := Lib.hid (HOj.out.below bg)); (have HM := Lib.hid (HM.out.bm bg HM.out.own.1)); (have HBw := Lib.hid (bl_then HBw.out bg)); (have HO := Lib.hid (HO.out.trk bg)); clear og bg hog))
      go_wp2_with (go_at_call 15; ((with_reducible refine Calls.mono (Same_rd' HRg.out HOj.out.rd rfl) ?_); rintro e wt3 ⟨rfl, bt⟩); (have HM := Lib.hid (HM.out.bm bt HM.out.own.1)); (have HBw := Lib.hid (bl_then HBw.out bt)); (have HO := Lib.hid (HO.out.trk bt)); clear bt)
      clear HRg HNj
      clear HPt
      rw [rounds_succ]
      go_upto_region 30 with fail
      clear HTl HT HSB HOj
      go_upto_region 31 with (first
        | (refine wpList_load_mid rfl 31 _ rfl (w.heap.size + 1) 0 rfl [Value.int .u8 (f0.toNat : Int), .int .u8 (f1.toNat : Int), .int .u8 (f2.toNat : Int), .int .u8 (f3.toNat : Int), .int .u8 (f4.toNat : Int), .int .u8 (f5.toNat : Int), .int .u8 (f6.toNat : Int), .int .u8 (f7.toNat : Int)] _ (HO.out.alloc).range Tryz.underlying31 rfl (by kernel_rfl) ?_; (obtain ⟨wa7, hwa7⟩ : ∃ x, wt3.alloc (.cells #[.int .u8 1] 5) = x := ⟨_, rfl⟩); (rw [hwa7]); (have HRa := Lib.hid (show Rd wa7 (.slice (some ⟨wt3.heap.size, 0, none⟩) 1 1) [1] from hwa7 ▸ rd_one wt3)); (have HBa7 := Lib.hid (show Below wt3.heap.size wt3 wa7 from hwa7 ▸ bl_alloc (Below.refl wt3.heap.size wt3) (.cells #[.int .u8 1] 5))); clear hwa7)
        | (go_at_call 12; (refine Calls.mono (HVf.out _ _ HRa.out) ?_); rintro e wp ⟨vp, rfl, op_, bp⟩; (have HBp := Lib.hid (bl_then HBa7.out bp)); (have hop := op_.rd); (rw [show opqB [1] ++ (opqB [110] ++ (put4 2 ++ [f0, f1, f2, f3, f4, f5, f6, f7])) = [] ++ (opqB [1] ++ opqB [110]) ++ put4 2 ++ [f0, f1, f2, f3, f4, f5, f6, f7] from by simp only [List.nil_append, List.append_assoc]] at hop); (obtain ⟨Ap, kp, rfl, _, _, _⟩ := hop.bs); (have HRp := Lib.hid hop); clear op_ bp hop))
      have hd31 := HM.out.hd.below HBp.out
      have HOp := HO.out.trk HBp.out
      have HBz := bl_then HBw.out HBp.out
      go_cut [18] from 115 (fun sx wx => Hid (OwnB wx wp.heap.size sx ([] ++ (opqB [1] ++ opqB [110]) ++ put4 2 ++ [f0, f1, f2, f3, f4, f5, f6, f7])) ∧ Hid (Below wp.heap.size wp wx))
      case first =>
        rename_i J K2 hJ hK2
        refine wp_region_held_drew (S := fun wq => True) rfl trivial fun hS0 => ?_
        (refine wpAnyH_take (i := 0) (v := ?_) rfl (by kernel_rfl) (by kernel_rfl) (by kernel_rfl) (fun _ _ _ h => h) (Or.inl ⟨by rfl, ?_⟩) (by assumption) ?_; rotate_left; (intro wq hSw; (try dsimp only at hSw); go_simp; (try with_reducible rfl)); rotate_left; (try dsimp only [Act.put]); (try simp only [List.setIfInBounds_toArray, List.set_cons_zero, List.set_cons_succ])); (try simp only [List.getElem_toArray, List.getElem_cons_succ, List.getElem_cons_zero]); (try dsimp only [Act.put]); (try simp only [List.setIfInBounds_toArray, List.set_cons_zero, List.set_cons_succ])
        (refine wpAnyH_take (i := 4) (v := ?_) rfl (by kernel_rfl) (by kernel_rfl) (by kernel_rfl) (fun _ _ _ h => h) (Or.inl ⟨by rfl, ?_⟩) (by assumption) ?_; rotate_left; (intro wq hSw; (try dsimp only at hSw); go_simp; (try with_reducible rfl)); rotate_left; (try dsimp only [Act.put]); (try simp only [List.setIfInBounds_toArray, List.set_cons_zero, List.set_cons_succ])); (try simp only [List.getElem_toArray, List.getElem_cons_succ, List.getElem_cons_zero]); (try dsimp only [Act.put]); (try simp only [List.setIfInBounds_toArray, List.set_cons_zero, List.set_cons_succ])
        have bt9 := bl_drew (Below.refl wp.heap.size wp)
        refine wpAnyH_ready (rs := [1]) (by kernel_rfl) (by simp) ?_
        refine AllReadyH.cons rfl (fun K' hK => ?_) AllReadyH.nil
        rw [if_pos (by rfl)]
        refine oper_append_rd _ _ rfl rfl rfl (OwnB.nil _ wp.heap.size) (hd31.below bt9) (by decide) bt9.size ?_
        intro vy0 wy0 oy0 _ by0
        have bt0 := bt9.trans by0
        refine hK.out _ _ trivial fun hS => ?_
        (try simp only [List.getElem_toArray, List.getElem_cons_succ, List.getElem_cons_zero]); (try dsimp only [Act.put]); (try simp only [List.setIfInBounds_toArray, List.set_cons_zero, List.set_cons_succ])
        clear hK K'
        refine wpAnyH_ready (rs := [2]) (by kernel_rfl) (by simp) ?_
        refine AllReadyH.cons rfl (fun K' hK => ?_) AllReadyH.nil
        rw [if_pos (by rfl)]
        go_simp
        go_at_call 20; (refine Calls.mono (Put_any 2 (by decide) _) ?_); rintro e wy1 ⟨vy1, rfl, oy1, by1⟩
        have bt1 := bl_then bt0 by1
        go_wp2_with fail
        refine hK.out _ _ trivial fun hS => ?_
        (try simp only [List.getElem_toArray, List.getElem_cons_succ, List.getElem_cons_zero]); (try dsimp only [Act.put]); (try simp only [List.setIfInBounds_toArray, List.set_cons_zero, List.set_cons_succ])
        clear hK K'
        refine wpAnyH_ready (rs := [3]) (by kernel_rfl) (by simp) ?_
        refine AllReadyH.cons rfl (fun K' hK => ?_) AllReadyH.nil
        rw [if_pos (by rfl)]
        refine oper_append_rd _ _ rfl rfl rfl (oy0.below by1) oy1.rd (by decide) bt1.size ?_
        intro vy2 wy2 oy2 _ by2
        have bt2 := bt1.trans by2
        refine hK.out _ _ trivial fun hS => ?_
        (try simp only [List.getElem_toArray, List.getElem_cons_succ, List.getElem_cons_zero]); (try dsimp only [Act.put]); (try simp only [List.setIfInBounds_toArray, List.set_cons_zero, List.set_cons_succ])
        clear hK K'
        refine wpAnyH_ready (rs := [5]) (by kernel_rfl) (by simp) ?_
        refine AllReadyH.cons rfl (fun K' hK => ?_) AllReadyH.nil
        rw [if_pos (by rfl)]
        refine oper_append_rd _ _ rfl rfl rfl oy2 (rd_verf (HOp.trk bt2)) (Nat.le_of_ble_eq_true rfl) bt2.size ?_
        intro vy3 wy3 oy3 _ by3
        have bt3 := bt2.trans by3
        refine hK.out _ _ trivial fun hS => ?_
        (try simp only [List.getElem_toArray, List.getElem_cons_succ, List.getElem_cons_zero]); (try dsimp only [Act.put]); (try simp only [List.setIfInBounds_toArray, List.set_cons_zero, List.set_cons_succ])
        clear hK K'
        (refine wpAnyH_take (i := 6) (v := ?_) rfl (by kernel_rfl) (by kernel_rfl) (by kernel_rfl) (fun _ _ _ h => h) (Or.inl ⟨by rfl, ?_⟩) (by assumption) ?_; rotate_left; (intro wq hSw; (try dsimp only at hSw); go_simp; (try with_reducible rfl)); rotate_left; (try dsimp only [Act.put]); (try simp only [List.setIfInBounds_toArray, List.set_cons_zero, List.set_cons_succ])); (try simp only [List.getElem_toArray, List.getElem_cons_succ, List.getElem_cons_zero]); (try dsimp only [Act.put]); (try simp only [List.setIfInBounds_toArray, List.set_cons_zero, List.set_cons_succ])
        refine wpAnyH_done (by kernel_rfl) ?_ _
        (first | refine hK2 _ _ (Met.intro ?_) | refine Met.intro ?_ | skip)
        refine hJ _ _ ?_
        (repeat apply Exists.intro)
        refine ⟨?_, rfl⟩
        exact ⟨Lib.hid oy3, Lib.hid bt3⟩
      case rest =>
      obtain ⟨HOy, HBy⟩ := hcut
      have hoy := HOy.out.rd
      obtain ⟨Ay, ky, rfl, _, _, _⟩ := hoy.bs
      have HRy := Lib.hid hoy
      have HRp2 := Lib.hid (HRp.out.below HBy.out)
      have HBq := Lib.hid (bl_then HBz HBy.out)
      clear hoy HOy HRp HBy
      go_wp2_with (go_at_call 15; ((refine Calls.mono (Same_rd' HRp2.out HRy.out rfl) ?_); rintro e wv ⟨rfl, bv⟩); (have HBf := Lib.hid (bl_then HBq.out bv)); clear bv)
      go_ret
      exact ⟨rfl, HBf.out⟩
    · have hgt : decide ((tg.length : Int) ≤ 1024) = false := by simp; omega
      have hpt : putA {Ar.zero 10 with h := [1], name := [110], set := s, target := tg} = .error 1 := by have h := put_symlink (target := tg) HS.out; rw [HSet.out] at h; dsimp only at h; rw [if_neg g9] at h; exact h
      have HPt := Lib.hid hpt
      clear hpt
      have HTl := Lib.hid (show tg.length ≤ 1900000 by have := HT.out; omega)
      go_upto_region 26 with (first
        | (go_at_call 18; (refine Calls.mono (SPut_any (xs := tg) HTl.out) ?_); rintro e wk ⟨vk, rfl, ok_, bk⟩; (have HOk := Lib.hid ok_); (have HOe := Lib.hid (HOe.out.below bk)); (have hle := Nat.le_trans hle bk.size); (have HM := Lib.hid (HM.out.bm bk HM.out.own.1)); (have HBw := Lib.hid (bl_then HBw.out bk)); (have HO := Lib.hid (HO.out.trk bk)); clear ok_ bk)
        | (at_builtin; go_loud (refine wp_append_rd rfl _ _ rfl rfl rfl HOe.out HOk.out.rd (show ([] ++ (opqB [1] ++ opqB [110]) ++ SB).length + (put4 tg.length ++ qCut tg).length ≤ 1099511627776 by have := HSB.out; have := HT.out; have : ([] ++ (opqB [1] ++ opqB [110])).length ≤ 100 := (by decide); simp only [List.length_append, put4_length, qCut_length] at *; unfold padN; omega) hle ?_; intro vj wj oj _ bj; (have HOj := Lib.hid oj); (have HM := Lib.hid (HM.out.bm bj hlD)); (have HBw := Lib.hid (HBw.out.trans (bj.mono (by omega)))); (have HO := Lib.hid (HO.out.belowm bj (by omega))); clear oj bj)))
      clear HOe HOk hle
      clear HOj
      go_upto_region 27 with (first
        | (refine wpList_load_mid rfl 33 _ rfl KA 0 rfl (arC vh nilS nilS {Ar.zero 10 with h := [1], name := [110], set := s, target := tg}) _ HM.out.own.range Tryz.underlying33 rfl (by kernel_rfl) ?_)
        | (go_at_call 12; (refine Calls.mono (Put_no (a := {Ar.zero 10 with h := [1], name := [110], set := s, target := tg}) ⟨show (10 : Nat) < 4294967296 by decide, HS.out, z1, z3, z2, z3, z3, z3, show (0 : Nat) < 4294967296 by decide, z3, rfl, z2⟩ rfl rfl rfl HPt.out HM.out.r) ?_); rintro e wg3 ⟨rfl, bg⟩; (have HM := Lib.hid (HM.out.bm bg HM.out.own.1)); (have HBw := Lib.hid (bl_then HBw.out bg)); (have HO := Lib.hid (HO.out.trk bg)); clear bg))
      go_wp2_with fail
      clear HPt
      rw [rounds_succ]
      go_upto_region 30 with fail
      clear HTl HT HSB
      go_upto_region 31 with (first
        | (refine wpList_load_mid rfl 31 _ rfl (w.heap.size + 1) 0 rfl [Value.int .u8 (f0.toNat : Int), .int .u8 (f1.toNat : Int), .int .u8 (f2.toNat : Int), .int .u8 (f3.toNat : Int), .int .u8 (f4.toNat : Int), .int .u8 (f5.toNat : Int), .int .u8 (f6.toNat : Int), .int .u8 (f7.toNat : Int)] _ (HO.out.alloc).range Tryz.underlying31 rfl (by kernel_rfl) ?_; (obtain ⟨wa7, hwa7⟩ : ∃ x, wg3.alloc (.cells #[.int .u8 1] 5) = x := ⟨_, rfl⟩); (rw [hwa7]); (have HRa := Lib.hid (show Rd wa7 (.slice (some ⟨wg3.heap.size, 0, none⟩) 1 1) [1] from hwa7 ▸ rd_one wg3)); (have HBa7 := Lib.hid (show Below wg3.heap.size wg3 wa7 from hwa7 ▸ bl_alloc (Below.refl wg3.heap.size wg3) (.cells #[.int .u8 1] 5))); clear hwa7)
        | (go_at_call 12; (refine Calls.mono (HVf.out _ _ HRa.out) ?_); rintro e wp ⟨vp, rfl, op_, bp⟩; (have HBp := Lib.hid (bl_then HBa7.out bp)); (have hop := op_.rd); (rw [show opqB [1] ++ (opqB [110] ++ (put4 2 ++ [f0, f1, f2, f3, f4, f5, f6, f7])) = [] ++ (opqB [1] ++ opqB [110]) ++ put4 2 ++ [f0, f1, f2, f3, f4, f5, f6, f7] from by simp only [List.nil_append, List.append_assoc]] at hop); (obtain ⟨Ap, kp, rfl, _, _, _⟩ := hop.bs); (have HRp := Lib.hid hop); clear op_ bp hop))
      have hd31 := HM.out.hd.below HBp.out
      have HOp := HO.out.trk HBp.out
      have HBz := bl_then HBw.out HBp.out
      go_cut [18] from 115 (fun sx wx => Hid (OwnB wx wp.heap.size sx ([] ++ (opqB [1] ++ opqB [110]) ++ put4 2 ++ [f0, f1, f2, f3, f4, f5, f6, f7])) ∧ Hid (Below wp.heap.size wp wx))
      case first =>
        rename_i J K2 hJ hK2
        refine wp_region_held_drew (S := fun wq => True) rfl trivial fun hS0 => ?_
        (refine wpAnyH_take (i := 0) (v := ?_) rfl (by kernel_rfl) (by kernel_rfl) (by kernel_rfl) (fun _ _ _ h => h) (Or.inl ⟨by rfl, ?_⟩) (by assumption) ?_; rotate_left; (intro wq hSw; (try dsimp only at hSw); go_simp; (try with_reducible rfl)); rotate_left; (try dsimp only [Act.put]); (try simp only [List.setIfInBounds_toArray, List.set_cons_zero, List.set_cons_succ])); (try simp only [List.getElem_toArray, List.getElem_cons_succ, List.getElem_cons_zero]); (try dsimp only [Act.put]); (try simp only [List.setIfInBounds_toArray, List.set_cons_zero, List.set_cons_succ])
        (refine wpAnyH_take (i := 4) (v := ?_) rfl (by kernel_rfl) (by kernel_rfl) (by kernel_rfl) (fun _ _ _ h => h) (Or.inl ⟨by rfl, ?_⟩) (by assumption) ?_; rotate_left; (intro wq hSw; (try dsimp only at hSw); go_simp; (try with_reducible rfl)); rotate_left; (try dsimp only [Act.put]); (try simp only [List.setIfInBounds_toArray, List.set_cons_zero, List.set_cons_succ])); (try simp only [List.getElem_toArray, List.getElem_cons_succ, List.getElem_cons_zero]); (try dsimp only [Act.put]); (try simp only [List.setIfInBounds_toArray, List.set_cons_zero, List.set_cons_succ])
        have bt9 := bl_drew (Below.refl wp.heap.size wp)
        refine wpAnyH_ready (rs := [1]) (by kernel_rfl) (by simp) ?_
        refine AllReadyH.cons rfl (fun K' hK => ?_) AllReadyH.nil
        rw [if_pos (by rfl)]
        refine oper_append_rd _ _ rfl rfl rfl (OwnB.nil _ wp.heap.size) (hd31.below bt9) (by decide) bt9.size ?_
        intro vy0 wy0 oy0 _ by0
        have bt0 := bt9.trans by0
        refine hK.out _ _ trivial fun hS => ?_
        (try simp only [List.getElem_toArray, List.getElem_cons_succ, List.getElem_cons_zero]); (try dsimp only [Act.put]); (try simp only [List.setIfInBounds_toArray, List.set_cons_zero, List.set_cons_succ])
        clear hK K'
        refine wpAnyH_ready (rs := [2]) (by kernel_rfl) (by simp) ?_
        refine AllReadyH.cons rfl (fun K' hK => ?_) AllReadyH.nil
        rw [if_pos (by rfl)]
        go_simp
        go_at_call 20; (refine Calls.mono (Put_any 2 (by decide) _) ?_); rintro e wy1 ⟨vy1, rfl, oy1, by1⟩
        have bt1 := bl_then bt0 by1
        go_wp2_with fail
        refine hK.out _ _ trivial fun hS => ?_
        (try simp only [List.getElem_toArray, List.getElem_cons_succ, List.getElem_cons_zero]); (try dsimp only [Act.put]); (try simp only [List.setIfInBounds_toArray, List.set_cons_zero, List.set_cons_succ])
        clear hK K'
        refine wpAnyH_ready (rs := [3]) (by kernel_rfl) (by simp) ?_
        refine AllReadyH.cons rfl (fun K' hK => ?_) AllReadyH.nil
        rw [if_pos (by rfl)]
        refine oper_append_rd _ _ rfl rfl rfl (oy0.below by1) oy1.rd (by decide) bt1.size ?_
        intro vy2 wy2 oy2 _ by2
        have bt2 := bt1.trans by2
        refine hK.out _ _ trivial fun hS => ?_
        (try simp only [List.getElem_toArray, List.getElem_cons_succ, List.getElem_cons_zero]); (try dsimp only [Act.put]); (try simp only [List.setIfInBounds_toArray, List.set_cons_zero, List.set_cons_succ])
        clear hK K'
        refine wpAnyH_ready (rs := [5]) (by kernel_rfl) (by simp) ?_
        refine AllReadyH.cons rfl (fun K' hK => ?_) AllReadyH.nil
        rw [if_pos (by rfl)]
        refine oper_append_rd _ _ rfl rfl rfl oy2 (rd_verf (HOp.trk bt2)) (Nat.le_of_ble_eq_true rfl) bt2.size ?_
        intro vy3 wy3 oy3 _ by3
        have bt3 := bt2.trans by3
        refine hK.out _ _ trivial fun hS => ?_
        (try simp only [List.getElem_toArray, List.getElem_cons_succ, List.getElem_cons_zero]); (try dsimp only [Act.put]); (try simp only [List.setIfInBounds_toArray, List.set_cons_zero, List.set_cons_succ])
        clear hK K'
        (refine wpAnyH_take (i := 6) (v := ?_) rfl (by kernel_rfl) (by kernel_rfl) (by kernel_rfl) (fun _ _ _ h => h) (Or.inl ⟨by rfl, ?_⟩) (by assumption) ?_; rotate_left; (intro wq hSw; (try dsimp only at hSw); go_simp; (try with_reducible rfl)); rotate_left; (try dsimp only [Act.put]); (try simp only [List.setIfInBounds_toArray, List.set_cons_zero, List.set_cons_succ])); (try simp only [List.getElem_toArray, List.getElem_cons_succ, List.getElem_cons_zero]); (try dsimp only [Act.put]); (try simp only [List.setIfInBounds_toArray, List.set_cons_zero, List.set_cons_succ])
        refine wpAnyH_done (by kernel_rfl) ?_ _
        (first | refine hK2 _ _ (Met.intro ?_) | refine Met.intro ?_ | skip)
        refine hJ _ _ ?_
        (repeat apply Exists.intro)
        refine ⟨?_, rfl⟩
        exact ⟨Lib.hid oy3, Lib.hid bt3⟩
      case rest =>
      obtain ⟨HOy, HBy⟩ := hcut
      have hoy := HOy.out.rd
      obtain ⟨Ay, ky, rfl, _, _, _⟩ := hoy.bs
      have HRy := Lib.hid hoy
      have HRp2 := Lib.hid (HRp.out.below HBy.out)
      have HBq := Lib.hid (bl_then HBz HBy.out)
      clear hoy HOy HRp HBy
      go_wp2_with (go_at_call 15; ((refine Calls.mono (Same_rd' HRp2.out HRy.out rfl) ?_); rintro e wv ⟨rfl, bv⟩); (have HBf := Lib.hid (bl_then HBq.out bv)); clear bv)
      go_ret
      exact ⟨rfl, HBf.out⟩
  · have HSet := Lib.hid hset
    have HSB := Lib.hid (show SB.length ≤ 40000 from by rw [hSB]; decide)
    clear hset HC
    refine wp_loop_rounds 5 ?_
    rw [rounds_succ]
    have hlW : KA < w7.heap.size := HM.out.own.1
    go_upto_region 10 with (first
      | (go_at_call 20; (refine Calls.mono (Put_any 0 (by decide) _) ?_); rintro e wb ⟨vb, rfl, ob, bb⟩; (have HOa := Lib.hid (HOa.out.below bb)); (have HOb := Lib.hid ob); (have HBa := Lib.hid (bl_then HBa.out bb)); clear ob bb)
      | (at_builtin; (refine wp_append_rd rfl _ _ rfl rfl rfl (OwnB.nil _ w7.heap.size) HM.out.hd (by decide) (Nat.le_refl _) ?_; intro va wa oa _ ba; (have HOa := Lib.hid oa); (have HBa := Lib.hid ba); clear oa ba))
      | (at_builtin; (refine wp_append_rd rfl _ _ rfl rfl rfl HOa.out HOb.out.rd (by decide) HBa.out.size ?_; intro vc wc oc _ bc; (have HOc := Lib.hid oc); (have HBc := Lib.hid (HBa.out.trans bc)); clear oc bc)))
    have HM := Lib.hid (HM.out.bm HBc.out hlW)
    have HBw := Lib.hid (HBw.out.trans (HBc.out.mono (by omega)))
    have HO := Lib.hid (HO.out.belowm HBc.out (by omega))
    have hsz := HBc.out.size
    clear HOa HOb HBa HBc
    have c0 : wc.cell? ⟨KA, 0, none⟩ = some (.int .u32 0) := HM.out.own.2.1 0
    have f0 : wc.frozen? ⟨KA, 0, none⟩ = false := HM.out.own.2.2 0
    have c2 : wc.cell? ⟨KA, 29, none⟩ = some (.int .u32 0) := HM.out.own.2.1 29
    have f2 : wc.frozen? ⟨KA, 29, none⟩ = false := HM.out.own.2.2 29
    go_upto_region 23 with fail
    have HM := Lib.hid ((HM.out.set (a' := {Ar.zero 8 with h := [1], name := [110], set := s}) 0 (.int .u32 8) (by decide) rfl (by kernel_rfl)).set (a' := {Ar.zero 8 with h := [1], name := [110], set := s}) 29 (.int .u32 0) (by decide) rfl (by kernel_rfl))
    have HBw := Lib.hid (bl_set (bl_set HBw.out (p := ⟨KA, 0, none⟩) (by show _ ≤ KA; omega) (.int .u32 8)) (p := ⟨KA, 29, none⟩) (by show _ ≤ KA; omega) (.int .u32 0))
    have HO := Lib.hid ((HO.out.other (p := ⟨KA, 0, none⟩) (by show _ ≠ KA; omega) (v := .int .u32 8)).other (p := ⟨KA, 29, none⟩) (by show _ ≠ KA; omega) (v := .int .u32 0))
    have HOc := Lib.hid ((HOc.out.set (p := ⟨KA, 0, none⟩) hlW (.int .u32 8)).set (p := ⟨KA, 29, none⟩) hlW (.int .u32 0))
    have hle : w7.heap.size ≤ ((wc.setCell ⟨KA, 0, none⟩ (.int .u32 8)).setCell ⟨KA, 29, none⟩ (.int .u32 0)).heap.size := by simpa using hsz
    clear c0 f0 c2 f2
    obtain ⟨wd, hwd⟩ : ∃ x, (wc.setCell ⟨KA, 0, none⟩ (.int .u32 8)).setCell ⟨KA, 29, none⟩ (.int .u32 0) = x := ⟨_, rfl⟩
    rw [hwd] at HM HBw HO HOc hle ⊢
    clear hwd
    go_upto_region 24 with (at_builtin; go_loud (refine wp_append_rd rfl _ _ rfl rfl rfl HOc.out HM.out.st (show ([] ++ (opqB [1] ++ opqB [110]) ++ put4 0).length + SB.length ≤ 1099511627776 by have := HSB.out; have : ([] ++ (opqB [1] ++ opqB [110]) ++ put4 0).length ≤ 100 := (by decide); omega) hle ?_; intro ve we oe _ be; (have HOe := Lib.hid oe); (have HBe := Lib.hid be); clear oe be))
    have HM := Lib.hid (HM.out.bm HBe.out hlW)
    have HBw := Lib.hid (HBw.out.trans (HBe.out.mono (by omega)))
    have HO := Lib.hid (HO.out.belowm HBe.out (by omega))
    have hle := Nat.le_trans hle HBe.out.size
    clear HBe HOc
    have hpt : putA {Ar.zero 8 with h := [1], name := [110], set := s} = .error 1 := by have h := put_create (i := 0) HS.out (by decide); rw [HSet.out] at h; exact h
    have HPt := Lib.hid hpt
    clear hpt HOe
    go_upto_region 27 with (first
      | (refine wpList_load_mid rfl 33 _ rfl KA 0 rfl (arC vh nilS nilS {Ar.zero 8 with h := [1], name := [110], set := s}) _ HM.out.own.range Tryz.underlying33 rfl (by kernel_rfl) ?_)
      | (go_at_call 12; (refine Calls.mono (Put_no (a := {Ar.zero 8 with h := [1], name := [110], set := s}) ⟨show (8 : Nat) < 4294967296 by decide, HS.out, z1, z3, z2, z3, z3, z3, show (0 : Nat) < 4294967296 by decide, z3, rfl, z2⟩ rfl rfl rfl HPt.out HM.out.r) ?_); rintro e wg0 ⟨rfl, bg⟩; (have HM := Lib.hid (HM.out.bm bg HM.out.own.1)); (have HBw := Lib.hid (bl_then HBw.out bg)); (have HO := Lib.hid (HO.out.trk bg)); clear bg))
    go_wp2_with fail
    clear HPt
    clear hle
    rw [rounds_succ]
    have hlW : KA < wg0.heap.size := HM.out.own.1
    go_upto_region 10 with (first
      | (go_at_call 20; (refine Calls.mono (Put_any 1 (by decide) _) ?_); rintro e wb ⟨vb, rfl, ob, bb⟩; (have HOa := Lib.hid (HOa.out.below bb)); (have HOb := Lib.hid ob); (have HBa := Lib.hid (bl_then HBa.out bb)); clear ob bb)
      | (at_builtin; (refine wp_append_rd rfl _ _ rfl rfl rfl (OwnB.nil _ wg0.heap.size) HM.out.hd (by decide) (Nat.le_refl _) ?_; intro va wa oa _ ba; (have HOa := Lib.hid oa); (have HBa := Lib.hid ba); clear oa ba))
      | (at_builtin; (refine wp_append_rd rfl _ _ rfl rfl rfl HOa.out HOb.out.rd (by decide) HBa.out.size ?_; intro vc wc oc _ bc; (have HOc := Lib.hid oc); (have HBc := Lib.hid (HBa.out.trans bc)); clear oc bc)))
    have HM := Lib.hid (HM.out.bm HBc.out hlW)
    have HBw := Lib.hid (HBw.out.trans (HBc.out.mono (by omega)))
    have HO := Lib.hid (HO.out.belowm HBc.out (by omega))
    have hsz := HBc.out.size
    clear HOa HOb HBa HBc
    have c0 : wc.cell? ⟨KA, 0, none⟩ = some (.int .u32 8) := HM.out.own.2.1 0
    have f0 : wc.frozen? ⟨KA, 0, none⟩ = false := HM.out.own.2.2 0
    have c2 : wc.cell? ⟨KA, 29, none⟩ = some (.int .u32 0) := HM.out.own.2.1 29
    have f2 : wc.frozen? ⟨KA, 29, none⟩ = false := HM.out.own.2.2 29
    go_upto_region 23 with fail
    have HM := Lib.hid ((HM.out.set (a' := {Ar.zero 8 with h := [1], name := [110], set := s}) 0 (.int .u32 8) (by decide) rfl (by kernel_rfl)).set (a' := {Ar.zero 8 with h := [1], name := [110], set := s, how := 1}) 29 (.int .u32 1) (by decide) rfl (by kernel_rfl))
    have HBw := Lib.hid (bl_set (bl_set HBw.out (p := ⟨KA, 0, none⟩) (by show _ ≤ KA; omega) (.int .u32 8)) (p := ⟨KA, 29, none⟩) (by show _ ≤ KA; omega) (.int .u32 1))
    have HO := Lib.hid ((HO.out.other (p := ⟨KA, 0, none⟩) (by show _ ≠ KA; omega) (v := .int .u32 8)).other (p := ⟨KA, 29, none⟩) (by show _ ≠ KA; omega) (v := .int .u32 1))
    have HOc := Lib.hid ((HOc.out.set (p := ⟨KA, 0, none⟩) hlW (.int .u32 8)).set (p := ⟨KA, 29, none⟩) hlW (.int .u32 1))
    have hle : wg0.heap.size ≤ ((wc.setCell ⟨KA, 0, none⟩ (.int .u32 8)).setCell ⟨KA, 29, none⟩ (.int .u32 1)).heap.size := by simpa using hsz
    clear c0 f0 c2 f2
    obtain ⟨wd, hwd⟩ : ∃ x, (wc.setCell ⟨KA, 0, none⟩ (.int .u32 8)).setCell ⟨KA, 29, none⟩ (.int .u32 1) = x := ⟨_, rfl⟩
    rw [hwd] at HM HBw HO HOc hle ⊢
    clear hwd
    go_upto_region 24 with (at_builtin; go_loud (refine wp_append_rd rfl _ _ rfl rfl rfl HOc.out HM.out.st (show ([] ++ (opqB [1] ++ opqB [110]) ++ put4 1).length + SB.length ≤ 1099511627776 by have := HSB.out; have : ([] ++ (opqB [1] ++ opqB [110]) ++ put4 1).length ≤ 100 := (by decide); omega) hle ?_; intro ve we oe _ be; (have HOe := Lib.hid oe); (have HBe := Lib.hid be); clear oe be))
    have HM := Lib.hid (HM.out.bm HBe.out hlW)
    have HBw := Lib.hid (HBw.out.trans (HBe.out.mono (by omega)))
    have HO := Lib.hid (HO.out.belowm HBe.out (by omega))
    have hle := Nat.le_trans hle HBe.out.size
    clear HBe HOc
    have hpt : putA {Ar.zero 8 with h := [1], name := [110], set := s, how := 1} = .error 1 := by have h := put_create (i := 1) HS.out (by decide); rw [HSet.out] at h; exact h
    have HPt := Lib.hid hpt
    clear hpt HOe
    go_upto_region 27 with (first
      | (refine wpList_load_mid rfl 33 _ rfl KA 0 rfl (arC vh nilS nilS {Ar.zero 8 with h := [1], name := [110], set := s, how := 1}) _ HM.out.own.range Tryz.underlying33 rfl (by kernel_rfl) ?_)
      | (go_at_call 12; (refine Calls.mono (Put_no (a := {Ar.zero 8 with h := [1], name := [110], set := s, how := 1}) ⟨show (8 : Nat) < 4294967296 by decide, HS.out, z1, z3, z2, z3, z3, z3, show (1 : Nat) < 4294967296 by decide, z3, rfl, z2⟩ rfl rfl rfl HPt.out HM.out.r) ?_); rintro e wg1 ⟨rfl, bg⟩; (have HM := Lib.hid (HM.out.bm bg HM.out.own.1)); (have HBw := Lib.hid (bl_then HBw.out bg)); (have HO := Lib.hid (HO.out.trk bg)); clear bg))
    go_wp2_with fail
    clear HPt
    clear hle
    rw [rounds_succ]
    have hlW : KA < wg1.heap.size := HM.out.own.1
    go_upto_region 10 with (first
      | (go_at_call 20; (refine Calls.mono (Put_any 2 (by decide) _) ?_); rintro e wb ⟨vb, rfl, ob, bb⟩; (have HOa := Lib.hid (HOa.out.below bb)); (have HOb := Lib.hid ob); (have HBa := Lib.hid (bl_then HBa.out bb)); clear ob bb)
      | (at_builtin; (refine wp_append_rd rfl _ _ rfl rfl rfl (OwnB.nil _ wg1.heap.size) HM.out.hd (by decide) (Nat.le_refl _) ?_; intro va wa oa _ ba; (have HOa := Lib.hid oa); (have HBa := Lib.hid ba); clear oa ba))
      | (at_builtin; (refine wp_append_rd rfl _ _ rfl rfl rfl HOa.out HOb.out.rd (by decide) HBa.out.size ?_; intro vc wc oc _ bc; (have HOc := Lib.hid oc); (have HBc := Lib.hid (HBa.out.trans bc)); clear oc bc)))
    have HM := Lib.hid (HM.out.bm HBc.out hlW)
    have HBw := Lib.hid (HBw.out.trans (HBc.out.mono (by omega)))
    have HO := Lib.hid (HO.out.belowm HBc.out (by omega))
    have hsz := HBc.out.size
    clear HOa HOb HBa HBc
    have c0 : wc.cell? ⟨KA, 0, none⟩ = some (.int .u32 8) := HM.out.own.2.1 0
    have f0 : wc.frozen? ⟨KA, 0, none⟩ = false := HM.out.own.2.2 0
    have c2 : wc.cell? ⟨KA, 29, none⟩ = some (.int .u32 1) := HM.out.own.2.1 29
    have f2 : wc.frozen? ⟨KA, 29, none⟩ = false := HM.out.own.2.2 29
    go_upto_region 18 with fail
    have HM := Lib.hid ((HM.out.set (a' := {Ar.zero 9 with h := [1], name := [110], set := s, how := 1}) 0 (.int .u32 9) (by decide) rfl (by kernel_rfl)).set (a' := {Ar.zero 9 with h := [1], name := [110], set := s}) 29 (.int .u32 0) (by decide) rfl (by kernel_rfl))
    have HBw := Lib.hid (bl_set (bl_set HBw.out (p := ⟨KA, 0, none⟩) (by show _ ≤ KA; omega) (.int .u32 9)) (p := ⟨KA, 29, none⟩) (by show _ ≤ KA; omega) (.int .u32 0))
    have HO := Lib.hid ((HO.out.other (p := ⟨KA, 0, none⟩) (by show _ ≠ KA; omega) (v := .int .u32 9)).other (p := ⟨KA, 29, none⟩) (by show _ ≠ KA; omega) (v := .int .u32 0))
    clear HOc
    clear c0 f0 c2 f2
    obtain ⟨wd, hwd⟩ : ∃ x, (wc.setCell ⟨KA, 0, none⟩ (.int .u32 9)).setCell ⟨KA, 29, none⟩ (.int .u32 0) = x := ⟨_, rfl⟩
    rw [hwd] at HM HBw HO ⊢
    clear hwd
    have hlD : KA < wd.heap.size := HM.out.own.1
    go_upto_region 23 with (at_builtin; (refine wp_append_rd rfl _ _ rfl rfl rfl (OwnB.nil _ wd.heap.size) HM.out.hd (by decide) (Nat.le_refl _) ?_; intro vx wx ox _ bx; (have HOc := Lib.hid ox); (have HBx := Lib.hid bx); clear ox bx))
    have HM := Lib.hid (HM.out.bm HBx.out hlD)
    have HBw := Lib.hid (HBw.out.trans (HBx.out.mono (by omega)))
    have HO := Lib.hid (HO.out.belowm HBx.out (by omega))
    have hle := HBx.out.size
    clear HBx
    go_upto_region 24 with (at_builtin; go_loud (refine wp_append_rd rfl _ _ rfl rfl rfl HOc.out HM.out.st (show ([] ++ (opqB [1] ++ opqB [110])).length + SB.length ≤ 1099511627776 by have := HSB.out; have : ([] ++ (opqB [1] ++ opqB [110])).length ≤ 100 := (by decide); omega) hle ?_; intro ve we oe _ be; (have HOe := Lib.hid oe); (have HBe := Lib.hid be); clear oe be))
    have HM := Lib.hid (HM.out.bm HBe.out hlD)
    have HBw := Lib.hid (HBw.out.trans (HBe.out.mono (by omega)))
    have HO := Lib.hid (HO.out.belowm HBe.out (by omega))
    have hle := Nat.le_trans hle HBe.out.size
    clear HBe HOc
    have hpt : putA {Ar.zero 9 with h := [1], name := [110], set := s} = .error 1 := by have h := put_made HS.out (rfl : (9 : Nat) = 9); rw [HSet.out] at h; exact h
    have HPt := Lib.hid hpt
    clear hpt HOe
    go_upto_region 27 with (first
      | (refine wpList_load_mid rfl 33 _ rfl KA 0 rfl (arC vh nilS nilS {Ar.zero 9 with h := [1], name := [110], set := s}) _ HM.out.own.range Tryz.underlying33 rfl (by kernel_rfl) ?_)
      | (go_at_call 12; (refine Calls.mono (Put_no (a := {Ar.zero 9 with h := [1], name := [110], set := s}) ⟨show (9 : Nat) < 4294967296 by decide, HS.out, z1, z3, z2, z3, z3, z3, show (0 : Nat) < 4294967296 by decide, z3, rfl, z2⟩ rfl rfl rfl HPt.out HM.out.r) ?_); rintro e wg2 ⟨rfl, bg⟩; (have HM := Lib.hid (HM.out.bm bg HM.out.own.1)); (have HBw := Lib.hid (bl_then HBw.out bg)); (have HO := Lib.hid (HO.out.trk bg)); clear bg))
    go_wp2_with fail
    clear HPt
    clear hle
    rw [rounds_succ]
    have hlW : KA < wg2.heap.size := HM.out.own.1
    go_upto_region 10 with (first
      | (go_at_call 20; (refine Calls.mono (Put_any 3 (by decide) _) ?_); rintro e wb ⟨vb, rfl, ob, bb⟩; (have HOa := Lib.hid (HOa.out.below bb)); (have HOb := Lib.hid ob); (have HBa := Lib.hid (bl_then HBa.out bb)); clear ob bb)
      | (at_builtin; (refine wp_append_rd rfl _ _ rfl rfl rfl (OwnB.nil _ wg2.heap.size) HM.out.hd (by decide) (Nat.le_refl _) ?_; intro va wa oa _ ba; (have HOa := Lib.hid oa); (have HBa := Lib.hid ba); clear oa ba))
      | (at_builtin; (refine wp_append_rd rfl _ _ rfl rfl rfl HOa.out HOb.out.rd (by decide) HBa.out.size ?_; intro vc wc oc _ bc; (have HOc := Lib.hid oc); (have HBc := Lib.hid (HBa.out.trans bc)); clear oc bc)))
    have HM := Lib.hid (HM.out.bm HBc.out hlW)
    have HBw := Lib.hid (HBw.out.trans (HBc.out.mono (by omega)))
    have HO := Lib.hid (HO.out.belowm HBc.out (by omega))
    have hsz := HBc.out.size
    clear HOa HOb HBa HBc
    have c0 : wc.cell? ⟨KA, 0, none⟩ = some (.int .u32 9) := HM.out.own.2.1 0
    have f0 : wc.frozen? ⟨KA, 0, none⟩ = false := HM.out.own.2.2 0
    have c2 : wc.cell? ⟨KA, 28, none⟩ = some (.string ⟨#[]⟩) := HM.out.own.2.1 28
    have f2 : wc.frozen? ⟨KA, 28, none⟩ = false := HM.out.own.2.2 28
    go_upto_region 22 with fail
    have HM := Lib.hid ((HM.out.set (a' := {Ar.zero 10 with h := [1], name := [110], set := s}) 0 (.int .u32 10) (by decide) rfl (by kernel_rfl)).set (a' := {Ar.zero 10 with h := [1], name := [110], set := s, target := tg}) 28 (.string ⟨tg.toArray⟩) (by decide) rfl (by kernel_rfl))
    have HBw := Lib.hid (bl_set (bl_set HBw.out (p := ⟨KA, 0, none⟩) (by show _ ≤ KA; omega) (.int .u32 10)) (p := ⟨KA, 28, none⟩) (by show _ ≤ KA; omega) (.string ⟨tg.toArray⟩))
    have HO := Lib.hid ((HO.out.other (p := ⟨KA, 0, none⟩) (by show _ ≠ KA; omega) (v := .int .u32 10)).other (p := ⟨KA, 28, none⟩) (by show _ ≠ KA; omega) (v := .string ⟨tg.toArray⟩))
    clear HOc
    clear c0 f0 c2 f2
    obtain ⟨wd, hwd⟩ : ∃ x, (wc.setCell ⟨KA, 0, none⟩ (.int .u32 10)).setCell ⟨KA, 28, none⟩ (.string ⟨tg.toArray⟩) = x := ⟨_, rfl⟩
    rw [hwd] at HM HBw HO ⊢
    clear hwd
    have hlD : KA < wd.heap.size := HM.out.own.1
    go_upto_region 23 with (at_builtin; (refine wp_append_rd rfl _ _ rfl rfl rfl (OwnB.nil _ wd.heap.size) HM.out.hd (by decide) (Nat.le_refl _) ?_; intro vx wx ox _ bx; (have HOc := Lib.hid ox); (have HBx := Lib.hid bx); clear ox bx))
    have HM := Lib.hid (HM.out.bm HBx.out hlD)
    have HBw := Lib.hid (HBw.out.trans (HBx.out.mono (by omega)))
    have HO := Lib.hid (HO.out.belowm HBx.out (by omega))
    have hle := HBx.out.size
    clear HBx
    go_upto_region 24 with (at_builtin; go_loud (refine wp_append_rd rfl _ _ rfl rfl rfl HOc.out HM.out.st (show ([] ++ (opqB [1] ++ opqB [110])).length + SB.length ≤ 1099511627776 by have := HSB.out; have : ([] ++ (opqB [1] ++ opqB [110])).length ≤ 100 := (by decide); omega) hle ?_; intro ve we oe _ be; (have HOe := Lib.hid oe); (have HBe := Lib.hid be); clear oe be))
    have HM := Lib.hid (HM.out.bm HBe.out hlD)
    have HBw := Lib.hid (HBw.out.trans (HBe.out.mono (by omega)))
    have HO := Lib.hid (HO.out.belowm HBe.out (by omega))
    have hle := Nat.le_trans hle HBe.out.size
    clear HBe HOc
    · have hpt : putA {Ar.zero 10 with h := [1], name := [110], set := s, target := tg} = .error 1 := by have h := put_symlink (target := tg) HS.out; rw [HSet.out] at h; exact h
      have HPt := Lib.hid hpt
      clear hpt
      have HTl := Lib.hid (show tg.length ≤ 1900000 by have := HT.out; omega)
      go_upto_region 26 with (first
        | (go_at_call 18; (refine Calls.mono (SPut_any (xs := tg) HTl.out) ?_); rintro e wk ⟨vk, rfl, ok_, bk⟩; (have HOk := Lib.hid ok_); (have HOe := Lib.hid (HOe.out.below bk)); (have hle := Nat.le_trans hle bk.size); (have HM := Lib.hid (HM.out.bm bk HM.out.own.1)); (have HBw := Lib.hid (bl_then HBw.out bk)); (have HO := Lib.hid (HO.out.trk bk)); clear ok_ bk)
        | (at_builtin; go_loud (refine wp_append_rd rfl _ _ rfl rfl rfl HOe.out HOk.out.rd (show ([] ++ (opqB [1] ++ opqB [110]) ++ SB).length + (put4 tg.length ++ qCut tg).length ≤ 1099511627776 by have := HSB.out; have := HT.out; have : ([] ++ (opqB [1] ++ opqB [110])).length ≤ 100 := (by decide); simp only [List.length_append, put4_length, qCut_length] at *; unfold padN; omega) hle ?_; intro vj wj oj _ bj; (have HOj := Lib.hid oj); (have HM := Lib.hid (HM.out.bm bj hlD)); (have HBw := Lib.hid (HBw.out.trans (bj.mono (by omega)))); (have HO := Lib.hid (HO.out.belowm bj (by omega))); clear oj bj)))
      clear HOe HOk hle
      clear HOj
      go_upto_region 27 with (first
        | (refine wpList_load_mid rfl 33 _ rfl KA 0 rfl (arC vh nilS nilS {Ar.zero 10 with h := [1], name := [110], set := s, target := tg}) _ HM.out.own.range Tryz.underlying33 rfl (by kernel_rfl) ?_)
        | (go_at_call 12; (refine Calls.mono (Put_no (a := {Ar.zero 10 with h := [1], name := [110], set := s, target := tg}) ⟨show (10 : Nat) < 4294967296 by decide, HS.out, z1, z3, z2, z3, z3, z3, show (0 : Nat) < 4294967296 by decide, z3, rfl, z2⟩ rfl rfl rfl HPt.out HM.out.r) ?_); rintro e wg3 ⟨rfl, bg⟩; (have HM := Lib.hid (HM.out.bm bg HM.out.own.1)); (have HBw := Lib.hid (bl_then HBw.out bg)); (have HO := Lib.hid (HO.out.trk bg)); clear bg))
      go_wp2_with fail
      clear HPt
      rw [rounds_succ]
      go_upto_region 30 with fail
      clear HTl HT HSB
      go_upto_region 31 with (first
        | (refine wpList_load_mid rfl 31 _ rfl (w.heap.size + 1) 0 rfl [Value.int .u8 (f0.toNat : Int), .int .u8 (f1.toNat : Int), .int .u8 (f2.toNat : Int), .int .u8 (f3.toNat : Int), .int .u8 (f4.toNat : Int), .int .u8 (f5.toNat : Int), .int .u8 (f6.toNat : Int), .int .u8 (f7.toNat : Int)] _ (HO.out.alloc).range Tryz.underlying31 rfl (by kernel_rfl) ?_; (obtain ⟨wa7, hwa7⟩ : ∃ x, wg3.alloc (.cells #[.int .u8 1] 5) = x := ⟨_, rfl⟩); (rw [hwa7]); (have HRa := Lib.hid (show Rd wa7 (.slice (some ⟨wg3.heap.size, 0, none⟩) 1 1) [1] from hwa7 ▸ rd_one wg3)); (have HBa7 := Lib.hid (show Below wg3.heap.size wg3 wa7 from hwa7 ▸ bl_alloc (Below.refl wg3.heap.size wg3) (.cells #[.int .u8 1] 5))); clear hwa7)
        | (go_at_call 12; (refine Calls.mono (HVf.out _ _ HRa.out) ?_); rintro e wp ⟨vp, rfl, op_, bp⟩; (have HBp := Lib.hid (bl_then HBa7.out bp)); (have hop := op_.rd); (rw [show opqB [1] ++ (opqB [110] ++ (put4 2 ++ [f0, f1, f2, f3, f4, f5, f6, f7])) = [] ++ (opqB [1] ++ opqB [110]) ++ put4 2 ++ [f0, f1, f2, f3, f4, f5, f6, f7] from by simp only [List.nil_append, List.append_assoc]] at hop); (obtain ⟨Ap, kp, rfl, _, _, _⟩ := hop.bs); (have HRp := Lib.hid hop); clear op_ bp hop))
      have hd31 := HM.out.hd.below HBp.out
      have HOp := HO.out.trk HBp.out
      have HBz := bl_then HBw.out HBp.out
      go_cut [18] from 115 (fun sx wx => Hid (OwnB wx wp.heap.size sx ([] ++ (opqB [1] ++ opqB [110]) ++ put4 2 ++ [f0, f1, f2, f3, f4, f5, f6, f7])) ∧ Hid (Below wp.heap.size wp wx))
      case first =>
        rename_i J K2 hJ hK2
        refine wp_region_held_drew (S := fun wq => True) rfl trivial fun hS0 => ?_
        (refine wpAnyH_take (i := 0) (v := ?_) rfl (by kernel_rfl) (by kernel_rfl) (by kernel_rfl) (fun _ _ _ h => h) (Or.inl ⟨by rfl, ?_⟩) (by assumption) ?_; rotate_left; (intro wq hSw; (try dsimp only at hSw); go_simp; (try with_reducible rfl)); rotate_left; (try dsimp only [Act.put]); (try simp only [List.setIfInBounds_toArray, List.set_cons_zero, List.set_cons_succ])); (try simp only [List.getElem_toArray, List.getElem_cons_succ, List.getElem_cons_zero]); (try dsimp only [Act.put]); (try simp only [List.setIfInBounds_toArray, List.set_cons_zero, List.set_cons_succ])
        (refine wpAnyH_take (i := 4) (v := ?_) rfl (by kernel_rfl) (by kernel_rfl) (by kernel_rfl) (fun _ _ _ h => h) (Or.inl ⟨by rfl, ?_⟩) (by assumption) ?_; rotate_left; (intro wq hSw; (try dsimp only at hSw); go_simp; (try with_reducible rfl)); rotate_left; (try dsimp only [Act.put]); (try simp only [List.setIfInBounds_toArray, List.set_cons_zero, List.set_cons_succ])); (try simp only [List.getElem_toArray, List.getElem_cons_succ, List.getElem_cons_zero]); (try dsimp only [Act.put]); (try simp only [List.setIfInBounds_toArray, List.set_cons_zero, List.set_cons_succ])
        have bt9 := bl_drew (Below.refl wp.heap.size wp)
        refine wpAnyH_ready (rs := [1]) (by kernel_rfl) (by simp) ?_
        refine AllReadyH.cons rfl (fun K' hK => ?_) AllReadyH.nil
        rw [if_pos (by rfl)]
        refine oper_append_rd _ _ rfl rfl rfl (OwnB.nil _ wp.heap.size) (hd31.below bt9) (by decide) bt9.size ?_
        intro vy0 wy0 oy0 _ by0
        have bt0 := bt9.trans by0
        refine hK.out _ _ trivial fun hS => ?_
        (try simp only [List.getElem_toArray, List.getElem_cons_succ, List.getElem_cons_zero]); (try dsimp only [Act.put]); (try simp only [List.setIfInBounds_toArray, List.set_cons_zero, List.set_cons_succ])
        clear hK K'
        refine wpAnyH_ready (rs := [2]) (by kernel_rfl) (by simp) ?_
        refine AllReadyH.cons rfl (fun K' hK => ?_) AllReadyH.nil
        rw [if_pos (by rfl)]
        go_simp
        go_at_call 20; (refine Calls.mono (Put_any 2 (by decide) _) ?_); rintro e wy1 ⟨vy1, rfl, oy1, by1⟩
        have bt1 := bl_then bt0 by1
        go_wp2_with fail
        refine hK.out _ _ trivial fun hS => ?_
        (try simp only [List.getElem_toArray, List.getElem_cons_succ, List.getElem_cons_zero]); (try dsimp only [Act.put]); (try simp only [List.setIfInBounds_toArray, List.set_cons_zero, List.set_cons_succ])
        clear hK K'
        refine wpAnyH_ready (rs := [3]) (by kernel_rfl) (by simp) ?_
        refine AllReadyH.cons rfl (fun K' hK => ?_) AllReadyH.nil
        rw [if_pos (by rfl)]
        refine oper_append_rd _ _ rfl rfl rfl (oy0.below by1) oy1.rd (by decide) bt1.size ?_
        intro vy2 wy2 oy2 _ by2
        have bt2 := bt1.trans by2
        refine hK.out _ _ trivial fun hS => ?_
        (try simp only [List.getElem_toArray, List.getElem_cons_succ, List.getElem_cons_zero]); (try dsimp only [Act.put]); (try simp only [List.setIfInBounds_toArray, List.set_cons_zero, List.set_cons_succ])
        clear hK K'
        refine wpAnyH_ready (rs := [5]) (by kernel_rfl) (by simp) ?_
        refine AllReadyH.cons rfl (fun K' hK => ?_) AllReadyH.nil
        rw [if_pos (by rfl)]
        refine oper_append_rd _ _ rfl rfl rfl oy2 (rd_verf (HOp.trk bt2)) (Nat.le_of_ble_eq_true rfl) bt2.size ?_
        intro vy3 wy3 oy3 _ by3
        have bt3 := bt2.trans by3
        refine hK.out _ _ trivial fun hS => ?_
        (try simp only [List.getElem_toArray, List.getElem_cons_succ, List.getElem_cons_zero]); (try dsimp only [Act.put]); (try simp only [List.setIfInBounds_toArray, List.set_cons_zero, List.set_cons_succ])
        clear hK K'
        (refine wpAnyH_take (i := 6) (v := ?_) rfl (by kernel_rfl) (by kernel_rfl) (by kernel_rfl) (fun _ _ _ h => h) (Or.inl ⟨by rfl, ?_⟩) (by assumption) ?_; rotate_left; (intro wq hSw; (try dsimp only at hSw); go_simp; (try with_reducible rfl)); rotate_left; (try dsimp only [Act.put]); (try simp only [List.setIfInBounds_toArray, List.set_cons_zero, List.set_cons_succ])); (try simp only [List.getElem_toArray, List.getElem_cons_succ, List.getElem_cons_zero]); (try dsimp only [Act.put]); (try simp only [List.setIfInBounds_toArray, List.set_cons_zero, List.set_cons_succ])
        refine wpAnyH_done (by kernel_rfl) ?_ _
        (first | refine hK2 _ _ (Met.intro ?_) | refine Met.intro ?_ | skip)
        refine hJ _ _ ?_
        (repeat apply Exists.intro)
        refine ⟨?_, rfl⟩
        exact ⟨Lib.hid oy3, Lib.hid bt3⟩
      case rest =>
      obtain ⟨HOy, HBy⟩ := hcut
      have hoy := HOy.out.rd
      obtain ⟨Ay, ky, rfl, _, _, _⟩ := hoy.bs
      have HRy := Lib.hid hoy
      have HRp2 := Lib.hid (HRp.out.below HBy.out)
      have HBq := Lib.hid (bl_then HBz HBy.out)
      clear hoy HOy HRp HBy
      go_wp2_with (go_at_call 15; ((refine Calls.mono (Same_rd' HRp2.out HRy.out rfl) ?_); rintro e wv ⟨rfl, bv⟩); (have HBf := Lib.hid (bl_then HBq.out bv)); clear bv)
      go_ret
      exact ⟨rfl, HBf.out⟩
end
end Go.Proofs.YtgmhapjidbdhnaaGreat

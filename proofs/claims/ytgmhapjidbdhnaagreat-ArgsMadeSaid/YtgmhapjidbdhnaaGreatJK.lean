/- Getter and putter of eight bytes. -/
import Derived.Test.YtgmhapjidbdhnaaGreatJI
import Derived.Deep.RegionHeld2
import Derived.Laws.IdiomCopy
import Derived.Laws.CopyOwn
set_option linter.unusedVariables false
set_option linter.unusedSimpArgs false
namespace Go.Proofs.YtgmhapjidbdhnaaGreat
open Go.RowKit
theorem pOpq_le {most : Nat} {xs ys : List UInt8} {j : Nat} (hm : most ≤ 100000) (h : pOpq most xs = .ok (ys, j)) : j ≤ xs.length ∧ ys.length ≤ most := by
  obtain ⟨h1, h2, _⟩ := (lawful_opq most (by omega)).again _ _ _ h
  exact ⟨h1, h2⟩
set_option maxRecDepth 100000 in
set_option maxHeartbeats 1000000 in
theorem Bytes_get {P : Nat → Prop} {w0 : World} {lo M most : Nat} (hm : most ≤ 100000) (a1 : lo ≤ M) (a2 : M < w0.heap.size) (c1 : w0.cell? ⟨M, 0, none⟩ = some (.int .i64 most)) (hP : ∀ i, lo ≤ i → i < w0.heap.size → ¬ P i) :
    Getter (Only P w0) (.func (.func 61) #[] #[.pointer (some ⟨M, 0, none⟩)]) (pOpq most) eByt := by
  refine ⟨_, _, rfl, fun args w => by kernel_rfl, fun w ho v xs hv hx => ?_⟩
  have g1 := (ho.cell (a := ⟨M, 0, none⟩) a2 (hP _ a1 a2)).trans c1
  have hMl := Nat.lt_of_lt_of_le a2 ho.size
  have HG := Lib.hid (OGet_any hv hm hx)
  have HL := Lib.hid (fun ys j => pOpq_le (xs := xs) (ys := ys) (j := j) hm)
  clear hP ho a1 a2 c1 hv hm hx
  show Calls Tryz.prog 61 #[v, .pointer (some ⟨M, 0, none⟩)] w _
  go_enter Tryz.func61, Tryz.ntmps61
  go_wp2_with (go_at_call 62; (refine Calls.mono HG.out ?_); rintro e w1 ⟨b1, ⟨ys, j, v', hp, rfl, o1⟩ | ⟨er, hp, hne, rfl⟩⟩; (have HP := Lib.hid hp); clear hp)
  · refine bodyPost_ret (v := .tuple #[v', .int .i64 j, .int .i64 0]) (by simp [results, Tryz.results61, go_sem]) rfl ⟨b1, .inl ⟨ys, j, v', HP.out, (HL.out _ _ HP.out).1, rfl, o1⟩⟩
  · refine bodyPost_ret (v := .tuple #[.slice none 0 0, .int .i64 0, .int .i64 er]) (by simp [results, Tryz.results61, go_sem]) rfl ⟨b1, .inr ⟨er, _, _, hp, hne, rfl⟩⟩
set_option maxRecDepth 100000 in
set_option maxHeartbeats 1000000 in
theorem Text_get {P : Nat → Prop} {w0 : World} {lo M most : Nat} (hm : most ≤ 100000) (a1 : lo ≤ M) (a2 : M < w0.heap.size) (c1 : w0.cell? ⟨M, 0, none⟩ = some (.int .i64 most)) (hP : ∀ i, lo ≤ i → i < w0.heap.size → ¬ P i) :
    Getter (Only P w0) (.func (.func 65) #[] #[.pointer (some ⟨M, 0, none⟩)]) (pOpq most) eTxt := by
  refine ⟨_, _, rfl, fun args w => by kernel_rfl, fun w ho v xs hv hx => ?_⟩
  have g1 := (ho.cell (a := ⟨M, 0, none⟩) a2 (hP _ a1 a2)).trans c1
  have hMl := Nat.lt_of_lt_of_le a2 ho.size
  have HG := Lib.hid (SGet_any hv hm hx)
  have HL := Lib.hid (fun ys j => pOpq_le (xs := xs) (ys := ys) (j := j) hm)
  clear hP ho a1 a2 c1 hv hm hx
  show Calls Tryz.prog 65 #[v, .pointer (some ⟨M, 0, none⟩)] w _
  go_enter Tryz.func65, Tryz.ntmps65
  go_wp2_with (go_at_call 66; (refine Calls.mono HG.out ?_); rintro e w1 ⟨b1, ⟨ys, j, hp, rfl⟩ | ⟨er, hp, hne, rfl⟩⟩; (have HP := Lib.hid hp); clear hp)
  · refine bodyPost_ret (v := .tuple #[strV ys, .int .i64 j, .int .i64 0]) (by simp [results, Tryz.results65, go_sem, strV]) rfl ⟨b1, .inl ⟨ys, j, _, HP.out, (HL.out _ _ HP.out).1, rfl, rfl⟩⟩
  · refine bodyPost_ret (v := .tuple #[strV [], .int .i64 0, .int .i64 er]) (by simp [results, Tryz.results65, go_sem, strV]) rfl ⟨b1, .inr ⟨er, _, _, hp, hne, rfl⟩⟩
theorem qOpq_len {most : Nat} {y bs : List UInt8} (h : qOpq most y = .ok bs) : bs.length ≤ most + 7 := by
  unfold qOpq at h
  split at h
  · injection h with h; subst h
    have : padN y.length ≤ 3 := by unfold padN; omega
    rw [List.length_append, put4_length, qCut_length]; omega
  · cases h
set_option maxRecDepth 100000 in
set_option maxHeartbeats 1000000 in
theorem Bytes_put {P : Nat → Prop} {w0 : World} {lo M most : Nat} (hm : most ≤ 100000) (a1 : lo ≤ M) (a2 : M < w0.heap.size) (c1 : w0.cell? ⟨M, 0, none⟩ = some (.int .i64 most)) (hP : ∀ i, lo ≤ i → i < w0.heap.size → ¬ P i) :
    Putter (Only P w0) (.func (.func 63) #[] #[.pointer (some ⟨M, 0, none⟩)]) (qOpq most) dByt (most + 7) := by
  refine ⟨fun w y u bs hD hq => qOpq_len hq, _, _, rfl, fun args w => by kernel_rfl, fun w ho y u hD => ?_⟩
  have g1 := (ho.cell (a := ⟨M, 0, none⟩) a2 (hP _ a1 a2)).trans c1
  have hMl := Nat.lt_of_lt_of_le a2 ho.size
  have hR : Rd w u y := hD
  obtain ⟨A, c, rfl, -, -, -, -⟩ := hR.bs
  show Calls Tryz.prog 63 #[.slice A y.length c, .pointer (some ⟨M, 0, none⟩)] w _
  by_cases hl : y.length ≤ most
  · have HG := Lib.hid (OPut_any hR (by omega))
    have HQ := Lib.hid (show qOpq most y = .ok (put4 y.length ++ qCut y) from if_pos hl)
    have hI : ¬ ((most : Int) < (y.length : Int)) := by omega
    clear hP ho a1 a2 c1 hD hR hm hl
    go_enter Tryz.func63, Tryz.ntmps63
    go_wp2_with (go_at_call 17; (refine Calls.mono HG.out ?_); rintro e w1 ⟨v, rfl, o1, b1⟩)
    refine bodyPost_ret (v := .tuple #[v, .int .i64 0]) (by simp [results, Tryz.results63, go_sem]) rfl ⟨b1, .inl ⟨_, _, HQ.out, rfl, o1⟩⟩
  · have HQ := Lib.hid (show qOpq most y = .error 1 from if_neg hl)
    have hI : ((most : Int) < (y.length : Int)) := by omega
    clear hP ho a1 a2 c1 hD hR hm hl
    go_enter Tryz.func63, Tryz.ntmps63
    go_wp2
    refine bodyPost_ret (v := .tuple #[.slice none 0 0, .int .i64 1]) (by simp [results, Tryz.results63, go_sem]) rfl ⟨Below.refl _ _, .inr ⟨1, 1, HQ.out, by decide, rfl⟩⟩
set_option maxRecDepth 100000 in
set_option maxHeartbeats 1000000 in
theorem Text_put {P : Nat → Prop} {w0 : World} {lo M most : Nat} (hm : most ≤ 100000) (a1 : lo ≤ M) (a2 : M < w0.heap.size) (c1 : w0.cell? ⟨M, 0, none⟩ = some (.int .i64 most)) (hP : ∀ i, lo ≤ i → i < w0.heap.size → ¬ P i) :
    Putter (Only P w0) (.func (.func 67) #[] #[.pointer (some ⟨M, 0, none⟩)]) (qOpq most) dTxt (most + 7) := by
  refine ⟨fun w y u bs hD hq => qOpq_len hq, _, _, rfl, fun args w => by kernel_rfl, fun w ho y u hD => ?_⟩
  have g1 := (ho.cell (a := ⟨M, 0, none⟩) a2 (hP _ a1 a2)).trans c1
  have hMl := Nat.lt_of_lt_of_le a2 ho.size
  cases hD
  have hsz : (⟨y.toArray⟩ : ByteArray).size = y.length := rfl
  show Calls Tryz.prog 67 #[strV y, .pointer (some ⟨M, 0, none⟩)] w _
  by_cases hl : y.length ≤ most
  · have HG := Lib.hid (SPut_any (xs := y) (w := w) (by omega))
    have HQ := Lib.hid (show qOpq most y = .ok (put4 y.length ++ qCut y) from if_pos hl)
    have hI : ¬ ((most : Int) < (y.length : Int)) := by omega
    unfold strV at HG ⊢
    clear hP ho a1 a2 c1 hm hl
    generalize (⟨y.toArray⟩ : ByteArray) = sb at *
    rw [← hsz] at hI
    have HZ := Lib.hid hsz
    clear hsz
    go_enter Tryz.func67, Tryz.ntmps67
    go_wp2_with (go_at_call 18; (refine Calls.mono HG.out ?_); rintro e w1 ⟨v, rfl, o1, b1⟩)
    refine bodyPost_ret (v := .tuple #[v, .int .i64 0]) (by simp [results, Tryz.results67, go_sem]) rfl ⟨b1, .inl ⟨_, _, HQ.out, rfl, o1⟩⟩
  · have HQ := Lib.hid (show qOpq most y = .error 1 from if_neg hl)
    have hI : ((most : Int) < (y.length : Int)) := by omega
    unfold strV
    clear hP ho a1 a2 c1 hm hl
    generalize (⟨y.toArray⟩ : ByteArray) = sb at *
    rw [← hsz] at hI
    have HZ := Lib.hid hsz
    clear hsz
    go_enter Tryz.func67, Tryz.ntmps67
    go_wp2
    refine bodyPost_ret (v := .tuple #[.slice none 0 0, .int .i64 1]) (by simp [results, Tryz.results67, go_sem]) rfl ⟨Below.refl _ _, .inr ⟨1, 1, HQ.out, by decide, rfl⟩⟩
/-- The cells of what is to be set. -/
def encSet (s : St) : List Value := [.bool s.hasMode, .int .u32 s.mode, .bool s.hasUser, .int .u32 s.user, .bool s.hasGroup, .int .u32 s.group, .bool s.hasSize, .int .u64 s.size, .int .u32 s.readHow, .int .u32 s.read.sec, .int .u32 s.read.nano, .int .u32 s.writeHow, .int .u32 s.write.sec, .int .u32 s.write.nano]
theorem encSet_len (s : St) : (encSet s).length = 14 := rfl
theorem encSet_one (s : St) : ∀ v ∈ encSet s, v.oneCell' = true := by simp [encSet, Value.oneCell']
theorem Set_get (W : World → Prop) : GetterM W (.func (.func 69) #[] #[]) pSet 14 encSet St.wf := by
  refine ⟨_, _, rfl, fun args w => by kernel_rfl, fun w _ v xs hv hx => ?_⟩
  obtain ⟨A, c, rfl, hc1, hc2, hB, hnone⟩ := hv.bs
  refine Calls.mono (GetSet_any hB hc1) ?_
  rintro e w' ⟨b1, ⟨s, k, hp, hk, rfl⟩ | ⟨er, hp, rfl⟩⟩
  · exact ⟨b1, encSet s, _, _, rfl, rfl, encSet_one s, .inl ⟨rfl, s, k, hp, rfl, hk, rfl, ((lawful_set).again _ _ _ hp).2.1⟩⟩
  · exact ⟨b1, encSet St.zero, _, _, rfl, rfl, encSet_one _, .inr ⟨by have := errs_set _ _ hp; omega, hp⟩⟩
theorem Set_put (W : World → Prop) : PutterM W (.func (.func 21) #[] #[]) rSet encSet St.wf 60 := by
  refine ⟨fun y bs hy hq => Nat.le_trans (Nat.le_of_eq (Len.set y _ hq)) (setN_le y).2.1, _, _, rfl, fun args w => by kernel_rfl, fun w _ y hy => ?_⟩
  refine Calls.mono (PutSet_any hy) ?_
  rintro e w' ⟨b1, ⟨bs, v, hp, rfl, o1⟩ | ⟨er, hp, rfl⟩⟩
  · exact ⟨b1, .inl ⟨bs, v, hp, rfl, o1⟩⟩
  · exact ⟨b1, .inr ⟨er, er, hp, by have := Err1.set y _ hp; omega, rfl⟩⟩
end Go.Proofs.YtgmhapjidbdhnaaGreat
namespace Go.Proofs.YtgmhapjidbdhnaaGreat
open Go.RowKit
def encT (t : Tm) : List Value := [.int .u32 t.sec, .int .u32 t.nano]
theorem encT_one (t : Tm) : ∀ v ∈ encT t, v.oneCell' = true := by simp [encT, Value.oneCell']
theorem pTime_wf {xs : List UInt8} {t : Tm} {j : Nat} (h : pTime xs = .ok (t, j)) : t.wf ∧ j ≤ xs.length := by
  obtain ⟨h1, h2, _⟩ := lawful_time.again _ _ _ h
  exact ⟨h2, h1⟩
set_option maxRecDepth 100000 in
set_option maxHeartbeats 2000000 in
theorem shortT_get {P : Nat → Prop} {w0 : World} {lo : Nat} {gv : Value} (h : ShortG w0 lo gv 113 8 (.func (.func 83) #[] #[])) (hP : ∀ i, lo ≤ i → i < w0.heap.size → ¬ P i) : GetterM (Only P w0) gv pTime 2 encT Tm.wf := by
  obtain ⟨Gb, Nb, rfl, a1, a2, a3, a4, c1, c2⟩ := h
  refine ⟨_, _, rfl, fun args w => by kernel_rfl, fun w ho v xs hv hx => ?_⟩
  have g1 := (ho.cell (a := ⟨Gb, 0, none⟩) a2 (hP _ a1 a2)).trans c1
  have g2 := (ho.cell (a := ⟨Nb, 0, none⟩) a4 (hP _ a3 a4)).trans c2
  have hGl := Nat.lt_of_lt_of_le a2 ho.size
  have hNl := Nat.lt_of_lt_of_le a4 ho.size
  obtain ⟨A, c, rfl, hc1, hc2, hB, hnone⟩ := hv.bs
  obtain ⟨t, er, hT, hres⟩ := TGet_any A xs.length c xs rfl hc1
  have HT := Lib.hid hT; have HB := Lib.hid hB
  have HRes := Lib.hid hres
  clear hP ho a1 a2 a3 a4 c1 c2 hv hnone hc2 hT hB hc1 hres
  show Calls Tryz.prog 113 #[.slice A xs.length c, .pointer (some ⟨Gb, 0, none⟩), .pointer (some ⟨Nb, 0, none⟩)] w _
  go_enter Tryz.func113, Tryz.ntmps113
  go_wp2_with (go_at_call 83; (refine Calls.mono (HT.out _ (HB.out.below (by (with_reducible (repeat' (first | exact Below.refl _ _ | assumption | apply bl_alloc | apply bl_drewN | apply bl_drew | refine bl_set ?_ ?_ _))) <;> (first | done | (simp; done) | (simp; omega) | omega)))) ?_); rintro e w1 ⟨rfl, b1⟩; (have hB1 : Below w.heap.size w w1 := bl_then (by (with_reducible (repeat' (first | exact Below.refl _ _ | assumption | apply bl_alloc | apply bl_drewN | apply bl_drew | refine bl_set ?_ ?_ _))) <;> (first | done | (simp; done) | (simp; omega) | omega)) b1); (have hz1 := b1.size); (simp at hz1); (have n0 : w1.cell? ⟨Nb, 0, none⟩ = some (.int .i64 8) := ((bcell hB1).1 _ 0 hNl).trans g2); (have hcx := (bcell b1).1); (have z0 : w1.cell? ⟨w.heap.size, 0, none⟩ = some (.int .u32 0) := (hcx _ 0 (by simp)).trans (by simp [go_sem])); (have z1 : w1.cell? ⟨w.heap.size, 1, none⟩ = some (.int .u32 0) := (hcx _ 1 (by simp)).trans (by simp [go_sem])); (have fx := (bcell b1).2); (have f0 : w1.frozen? ⟨w.heap.size, 0, none⟩ = false := (fx _ 0 (by simp)).trans (by simp [go_sem])); (have f1 : w1.frozen? ⟨w.heap.size, 1, none⟩ = false := (fx _ 1 (by simp)).trans (by simp [go_sem])); clear hcx fx b1)
  have hne : ¬ w1.heap.size = w.heap.size := by omega
  have hne2 : ¬ w.heap.size = w1.heap.size := by omega
  have hnw : ¬ Nb = w.heap.size := by omega
  have hNl1 : Nb < w1.heap.size := by omega
  have hwl : w.heap.size < w1.heap.size := by omega
  go_region_held3 (fun wx => wx.cell? ⟨w1.heap.size, 0, none⟩ = some (.int .u32 t.sec) ∧ wx.cell? ⟨w1.heap.size, 1, none⟩ = some (.int .u32 t.nano) ∧ wx.cell? ⟨Nb, 0, none⟩ = some (.int .i64 8)) (first | (simp [go_sem, *]; done) | (go_keep)) (fail)
  go_wp2
  refine bodyPost_ret (v := .tuple #[.agg #[.int .u32 t.sec, .int .u32 t.nano], .int .i64 8, .int .i64 er]) (by simp (maxDischargeDepth := 8) [results, Tryz.results113, go_sem, *]) rfl ⟨by (with_reducible (repeat' (first | exact Below.refl _ _ | assumption | apply bl_alloc | apply bl_drewN | apply bl_drew | refine bl_set ?_ ?_ _))) <;> (first | done | (simp; done) | (simp; omega) | omega), encT t, 8, er, rfl, rfl, encT_one t, ?_⟩
  rcases HRes.out with ⟨rfl, hp, hl⟩ | ⟨he, hp⟩
  · exact .inl ⟨rfl, t, 8, hp, rfl, hl, rfl, (pTime_wf hp).1⟩
  · exact .inr ⟨by simpa using he, hp⟩
def qTm (t : Tm) : Except Int (List UInt8) := .ok (putTm t)
set_option maxRecDepth 100000 in
set_option maxHeartbeats 1000000 in
theorem shortT_put {P : Nat → Prop} {w0 : World} {lo : Nat} {pv : Value} (h : ShortP w0 lo pv 114 (.func (.func 84) #[] #[])) (hP : ∀ i, lo ≤ i → i < w0.heap.size → ¬ P i) : PutterM (Only P w0) pv qTm encT Tm.wf 8 := by
  obtain ⟨Gb, rfl, a1, a2, c1⟩ := h
  refine ⟨fun y bs hy hq => ?_, _, _, rfl, fun args w => by kernel_rfl, fun w ho y hy => ?_⟩
  · injection hq with hq; rw [← hq]; exact Nat.le_of_ble_eq_true rfl
  have g1 := (ho.cell (a := ⟨Gb, 0, none⟩) a2 (hP _ a1 a2)).trans c1
  have hGl := Nat.lt_of_lt_of_le a2 ho.size
  have HG := Lib.hid (fun w => TPut_any y hy.1 hy.2 w)
  clear hP ho a1 a2 c1 hy
  show Calls Tryz.prog 114 #[.agg #[.int .u32 y.sec, .int .u32 y.nano], .pointer (some ⟨Gb, 0, none⟩)] w _
  go_enter Tryz.func114, Tryz.ntmps114
  go_wp2_with (go_at_call 84; (refine Calls.mono (HG.out _) ?_); rintro e w1 ⟨v, rfl, o1, b1⟩)
  refine bodyPost_ret (v := .tuple #[v, .int .i64 0]) (by simp [results, Tryz.results114, go_sem]) rfl ⟨bl_then (by (with_reducible (repeat' (first | exact Below.refl _ _ | assumption | apply bl_alloc | apply bl_drewN | apply bl_drew | refine bl_set ?_ ?_ _))) <;> (first | done | (simp; done) | (simp; omega) | omega)) b1, .inl ⟨_, _, rfl, rfl, o1.mono (by simp)⟩⟩
end Go.Proofs.YtgmhapjidbdhnaaGreat
namespace Go.Proofs.YtgmhapjidbdhnaaGreat
open Go.RowKit
def encV (xs : List UInt8) : List Value := xs.map fun b => .int .u8 (b.toNat : Int)
theorem encV_len (xs : List UInt8) : (encV xs).length = xs.length := by simp [encV]
theorem encV_one (xs : List UInt8) : ∀ v ∈ encV xs, v.oneCell' = true := by
  intro v hv
  obtain ⟨b, _, rfl⟩ := List.mem_map.1 hv
  rfl
theorem wpList_copy_cells {P : Program} {w : World} {ops : Array Oper} {rest : List Oper} {o : Oper} {a : Act} {Q : Exit → Act → World → Prop} (hgd : o.guard = none) (d s : Operand) (dT sT : TypeId)
    (ho : o.op = .call { callee := .builtin .copy, args := #[d, s], argTypes := #[dT, sT] }) (elem : TypeId) (hu : P.underlying dT = some (.slice elem)) (hsz : (P.info? elem).map (·.size) = some 1)
    (b off dLen dCap : Nat) (ad : Addr) (sLen sCap : Nat) (hd : a.eval d = .slice (some ⟨b, off, none⟩) dLen dCap) (hs : a.eval s = .slice (some ad) sLen sCap)
    (cs : List Value) (hn : cs.length = Nat.min sLen dLen) (hsrc : ∀ j v, cs[j]? = some v → w.cell? (ad.add j) = some v) (ht : w.there b off cs.length) (h1 : ∀ v ∈ cs, v.oneCell' = true)
    (h : wpList P ops Q rest (a.put o.dst (goInt cs.length)) (w.setCells b off cs)) : wpList P ops Q (o :: rest) a w := by
  refine wpList_plain hgd fun K hK => ?_
  have hrun := run_copy_cells (P := P) w dT sT o.type elem b off dLen dCap ad sLen sCap cs hu hsz hn hsrc (fun j hj => (ht j hj).1) (fun j hj => (ht j hj).2) h1
  unfold Oper.wp
  simp [execOp, ho, resolve, invoke, builtin, hd, hs, hrun, Result.andThen]
  exact hK _ _ h
theorem info_u8s : (Tryz.prog.info? 5).map (·.size) = some 1 := by kernel_rfl
set_option maxRecDepth 100000 in
set_option maxHeartbeats 2000000 in
theorem Verf_get (W : World → Prop) : GetterM W (.func (.func 75) #[] #[]) pVerf 8 encV (fun x => x.length = 8) := by
  refine ⟨_, _, rfl, fun args w => by kernel_rfl, fun w _ v xs hv hx => ?_⟩
  have HG := Lib.hid (fun w' (hb : Below w.heap.size w w') => GetFixed_any (n := 8) (hv.below hb) (by omega) hx)
  clear hv hx
  have oZ := OwnL.new (w := w) (l := [Value.int .u8 0, .int .u8 0, .int .u8 0, .int .u8 0, .int .u8 0, .int .u8 0, .int .u8 0, .int .u8 0]) (t := 31)
  have HZ := Lib.hid oZ
  clear oZ
  show Calls Tryz.prog 75 #[v] w _
  go_enter Tryz.func75, Tryz.ntmps75
  go_upto_region 2 with (go_at_call 76; (refine Calls.mono (HG.out _ (by (with_reducible (repeat' (first | exact Below.refl _ _ | assumption | apply bl_alloc | apply bl_drewN | apply bl_drew | refine bl_set ?_ ?_ _))) <;> (first | done | (simp; done) | (simp; omega) | omega))) ?_); rintro e w1 ⟨b1, ⟨ys, j, v', hp, rfl, o1⟩ | ⟨er, hp, hne, rfl⟩⟩)
  · have hB1 : Below w.heap.size w w1 := bl_then (by (with_reducible (repeat' (first | exact Below.refl _ _ | assumption | apply bl_alloc | apply bl_drewN | apply bl_drew | refine bl_set ?_ ?_ _))) <;> (first | done | (simp; done) | (simp; omega) | omega)) b1
    obtain ⟨hj, hyl, hjl⟩ := pCut_len hp
    have hp8 : padN 8 = 0 := rfl
    rw [hp8] at hj hjl
    have HP := Lib.hid hp
    have oZ1 := HZ.out.trk b1
    have hrd := o1.rd
    rcases hrd with ⟨rfl, rfl⟩ | ⟨b, off, c, rfl, k1, k2, k3, k4⟩
    · cases hyl
    · have HO := Lib.hid (fun j (hj : j < ys.length) => k4 j hj)
      have HY := Lib.hid hyl
      have Hb := Lib.hid hB1
      have HoZ := Lib.hid oZ1
      have Hj := Lib.hid hj; have Hjl := Lib.hid hjl
      clear k4 hyl hB1 oZ1 hp o1 b1 k1 k2 k3 hj hjl hp8 HZ HG
      go_upto_region 3 with (refine wpList_copy_cells rfl _ _ 24 24 rfl 5 Tryz.underlying24 info_u8s w.heap.size 0 8 8 ⟨b, off, none⟩ ys.length c rfl rfl (encV ys) (by rw [encV_len, HY.out]; rfl) (fun j v h => ?_) (by rw [encV_len, HY.out]; exact HoZ.out.there) (encV_one ys) ?_)
      · have hj : j < ys.length := by
          have := (List.getElem?_eq_some_iff.1 h).1
          simpa [encV] using this
        rw [Addr.add_lit, HO.out j hj, ← h, encV, List.getElem?_map, List.getD_eq_getElem?_getD]
        simp [hj]
      · have oY := HoZ.out.sets (vs := encV ys) (by rw [encV_len, HY.out]; rfl)
        have hB2 : Below w.heap.size w (w1.setCells w.heap.size 0 (encV ys)) := bl_setCells Hb.out (Nat.le_refl _)
        clear HoZ Hb HO
        generalize w1.setCells w.heap.size 0 (encV ys) = w2 at *
        have HoY := Lib.hid oY
        have Hb2 := Lib.hid hB2
        clear oY hB2
        have hyl8 : (encV ys).length = 8 := by rw [encV_len, HY.out]
        have HYl := Lib.hid hyl8
        clear hyl8
        go_wp2_with (first | (refine wpList_load_mid rfl 31 _ rfl w.heap.size 0 rfl (encV ys) _ HoY.out.range Tryz.underlying31 rfl (by rw [HYl.out]; kernel_rfl) ?_) | (refine wpList_store_mid rfl 31 _ _ rfl w.heap.size 0 (encV ys).toArray rfl rfl (by rw [List.size_toArray]; exact HoY.out.there) (by rw [List.size_toArray, HYl.out]; kernel_rfl) (all_oneCell_toArray (encV_one ys)) ?_))
        have oY3 := HoY.out.sets (vs := encV ys) rfl
        have hB3 : Below w.heap.size w (w2.setCells w.heap.size 0 (encV ys)) := bl_setCells Hb2.out (Nat.le_refl _)
        refine bodyPost_ret (v := .tuple #[.agg (encV ys).toArray, .int .i64 j, .int .i64 0]) (results_cell3 rfl rfl rfl rfl oY3 Tryz.underlying31 rfl (by rw [HYl.out]; kernel_rfl)) rfl ⟨hB3, encV ys, _, _, rfl, HYl.out, encV_one ys, .inl ⟨rfl, ys, j, HP.out, rfl, by rw [Hj.out]; exact Hjl.out, rfl, HY.out⟩⟩
  · have hB1 : Below w.heap.size w w1 := bl_then (by (with_reducible (repeat' (first | exact Below.refl _ _ | assumption | apply bl_alloc | apply bl_drewN | apply bl_drew | refine bl_set ?_ ?_ _))) <;> (first | done | (simp; done) | (simp; omega) | omega)) b1
    have HP := Lib.hid hp
    have oZ1 := HZ.out.trk b1
    have HoZ := Lib.hid oZ1; have Hb := Lib.hid hB1
    clear hp oZ1 hB1 b1 HG HZ
    go_upto_region 3 with (refine wpList_copy_nothing rfl _ _ 24 24 rfl 5 Tryz.underlying24 info_u8s (some ⟨w.heap.size, 0, none⟩) none 8 8 0 0 rfl rfl rfl ?_)
    obtain ⟨zs, hzs⟩ : ∃ zs, zs = [Value.int .u8 0, .int .u8 0, .int .u8 0, .int .u8 0, .int .u8 0, .int .u8 0, .int .u8 0, .int .u8 0] := ⟨_, rfl⟩
    have HZ1 := Lib.hid (show ∀ v ∈ zs, v.oneCell' = true by rw [hzs]; simp [Value.oneCell'])
    have HZl := Lib.hid (show zs.length = 8 by rw [hzs]; rfl)
    rw [← hzs] at HoZ
    clear hzs
    go_wp2_with (first | (refine wpList_load_mid rfl 31 _ rfl w.heap.size 0 rfl zs _ HoZ.out.range Tryz.underlying31 rfl (by rw [HZl.out]; kernel_rfl) ?_) | (refine wpList_store_mid rfl 31 _ _ rfl w.heap.size 0 zs.toArray rfl rfl (by rw [List.size_toArray]; exact HoZ.out.there) (by rw [List.size_toArray, HZl.out]; kernel_rfl) (all_oneCell_toArray HZ1.out) ?_))
    have oY3 := HoZ.out.sets (vs := zs) rfl
    have hB3 : Below w.heap.size w (w1.setCells w.heap.size 0 zs) := bl_setCells Hb.out (Nat.le_refl _)
    refine bodyPost_ret (v := .tuple #[.agg zs.toArray, .int .i64 0, .int .i64 er]) (results_cell3 rfl rfl rfl rfl oY3 Tryz.underlying31 rfl (by rw [HZl.out]; kernel_rfl)) rfl ⟨hB3, zs, _, _, rfl, HZl.out, HZ1.out, .inr ⟨hne, HP.out⟩⟩
set_option maxRecDepth 100000 in
set_option maxHeartbeats 2000000 in
theorem Verf_put (W : World → Prop) : PutterM W (.func (.func 77) #[] #[]) qVerf encV (fun x => x.length = 8) 8 := by
  refine ⟨fun y bs hy hq => by injection hq with hq; rw [← hq, hy]; exact Nat.le_refl _, _, _, rfl, fun args w => by kernel_rfl, fun w _ y hy => ?_⟩
  match y, hy with
  | [a, b, c, d, e, f, g, h], _ =>
    have hrd : Rd (w.alloc (.cells #[.int .u8 (a.toNat : Int), .int .u8 (b.toNat : Int), .int .u8 (c.toNat : Int), .int .u8 (d.toNat : Int), .int .u8 (e.toNat : Int), .int .u8 (f.toNat : Int), .int .u8 (g.toNat : Int), .int .u8 (h.toNat : Int)] 31)) (.slice (some ⟨w.heap.size, 0, none⟩) 8 8) [a, b, c, d, e, f, g, h] := by
      have oZ := OwnL.new (w := w) (l := encV [a, b, c, d, e, f, g, h]) (t := 31)
      refine .inr ⟨w.heap.size, 0, 8, rfl, Nat.le_refl _, by omega, oZ.1, fun j hj => ?_⟩
      rw [Nat.zero_add]
      refine (oZ.2.1 j).trans ?_
      rw [encV, List.getElem?_map, List.getD_eq_getElem?_getD, List.getElem?_eq_getElem hj]; rfl
    have HC := Lib.hid (Clone_any hrd (Nat.le_of_ble_eq_true rfl))
    clear hrd
    show Calls Tryz.prog 77 #[.agg #[.int .u8 (a.toNat : Int), .int .u8 (b.toNat : Int), .int .u8 (c.toNat : Int), .int .u8 (d.toNat : Int), .int .u8 (e.toNat : Int), .int .u8 (f.toNat : Int), .int .u8 (g.toNat : Int), .int .u8 (h.toNat : Int)]] w _
    go_enter Tryz.func77, Tryz.ntmps77
    go_wp2_with (go_at_call 78; (refine Calls.mono HC.out ?_); rintro e w1 ⟨v, rfl, o1, b1⟩)
    refine bodyPost_ret (v := .tuple #[v, .int .i64 0]) (by simp [results, Tryz.results77, go_sem]) rfl ⟨bl_then (by (with_reducible (repeat' (first | exact Below.refl _ _ | assumption | apply bl_alloc | apply bl_drewN | apply bl_drew | refine bl_set ?_ ?_ _))) <;> (first | done | (simp; done) | (simp; omega) | omega)) b1, .inl ⟨_, _, rfl, rfl, o1.mono (by simp)⟩⟩
end Go.Proofs.YtgmhapjidbdhnaaGreat

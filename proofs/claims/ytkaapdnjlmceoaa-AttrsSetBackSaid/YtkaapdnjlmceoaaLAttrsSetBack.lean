/- AttrsSetBack: the law's walk. Printed by gen_back10.py. -/
import Derived.Test.YtkaapdnjlmceoaaBackKit
import Derived.Test.YtkaapdnjlmceoaaLawfulB
import Derived.Test.YtkaapdnjlmceoaaRDoorS
set_option linter.unusedVariables false
set_option linter.unusedSimpArgs false
namespace Go.Proofs.Ytkaapdnjlmceoaa
open Go.RowKit
section
variable {w : World}
set_option maxRecDepth 100000 in
set_option maxHeartbeats 8000000 in
theorem LAttrsSetBack {a : St} (ha : a.wf) {A : Option Addr} {n cap : Nat} {xs : List UInt8} (hX : Bs w A n xs) (hnc : n ≤ cap) (hnil : A = none → cap = 0) {c : Nat} (hc : c < 256) :
    Calls Try.prog 11 #[eSet a, .slice A n cap, .int .u8 c] w fun e w' => e = .returned (.bool true) ∧ Below w.heap.size w w' := by
  have hn := hX.2.1
  have HX := Lib.hid hX
  have HP := Lib.hid (fun w => PutSet_any (w := w) ha)
  have HE := Lib.hid (Err1.set a)
  have HA := Lib.hid ha
  have heq := eqs_set a
  obtain ⟨k, hkN⟩ : ∃ k, setN a = k := ⟨_, rfl⟩
  have hk := setN_le a
  rw [hkN] at hk
  obtain ⟨hk1, hk2, hk4⟩ := hk
  obtain ⟨j, hj, hjk⟩ : ∃ j : Nat, (c : Int) % (k : Int) = j ∧ j < k := ⟨c % k, by omega, Nat.mod_lt _ (by omega)⟩
  have hk5 : (((k : Int) % 4) != 0) = false := by simp; omega
  clear hk4
  have HL := Lib.hid (show Len (rSet a) k by rw [← hkN]; exact Len.set a)
  clear hX ha
  simp only [eSet, St.cells] at HP ⊢
  by_cases hb : 1048576 < n
  · have hd := Lib.hid (decide_eq_true hb)
    clear hb HP HL HE HA heq
    go_enter Try.func11, Try.ntmps11
    go_wp2_with (first
      | (go_at_call 22; refine Calls.mono alive_any ?_; rintro e w1 ⟨rfl, b1⟩; (have hB : Below w.heap.size w _ := bl_then (by (with_reducible (repeat' (first | exact Below.refl _ _ | assumption | apply bl_alloc | apply bl_drewN | apply bl_drew | refine bl_set ?_ ?_ _))) <;> (first | done | (simp; done) | (simp; omega) | omega)) b1); clear b1)
      | (go_at_call 13; refine Calls.mono (Beyond_one _ n hn (by simp [go_sem])) ?_; rw [hd.out]; rintro e w2 ⟨rfl, rfl⟩))
    go_ret
    exact ⟨rfl, by (with_reducible (repeat' (first | exact Below.refl _ _ | assumption | apply bl_alloc | apply bl_drewN | apply bl_drew | refine bl_set ?_ ?_ _))) <;> (first | done | (simp; done) | (simp; omega) | omega)⟩
  · have hd := Lib.hid (decide_eq_false hb)
    have hle := Lib.hid (show n ≤ 1048576 by omega)
    clear hb
    go_enter Try.func11, Try.ntmps11
    have oA := OwnL.made w [Value.bool a.hasMode, .int .u32 a.mode, .bool a.hasUser, .int .u32 a.user, .bool a.hasGroup, .int .u32 a.group, .bool a.hasSize, .int .u64 a.size, .int .u32 a.readHow, .int .u32 a.read.sec, .int .u32 a.read.nano, .int .u32 a.writeHow, .int .u32 a.write.sec, .int .u32 a.write.nano] 39
    go_upto_region 3 with (first
      | (go_at_call 22; refine Calls.mono alive_any ?_; rintro e w1 ⟨rfl, b1⟩; (try have oA := OwnL.trk oA (bl_then (by (with_reducible (repeat' (first | exact Below.refl _ _ | assumption | apply bl_alloc | apply bl_drewN | apply bl_drew | refine bl_set ?_ ?_ _))) <;> (first | done | (simp; done) | (simp; omega) | omega)) b1)); (try have oB := OwnL.trk oB (bl_then (by (with_reducible (repeat' (first | exact Below.refl _ _ | assumption | apply bl_alloc | apply bl_drewN | apply bl_drew | refine bl_set ?_ ?_ _))) <;> (first | done | (simp; done) | (simp; omega) | omega)) b1)); (try have oC := OwnL.trk oC (bl_then (by (with_reducible (repeat' (first | exact Below.refl _ _ | assumption | apply bl_alloc | apply bl_drewN | apply bl_drew | refine bl_set ?_ ?_ _))) <;> (first | done | (simp; done) | (simp; omega) | omega)) b1)); (try have oD := OwnL.trk oD (bl_then (by (with_reducible (repeat' (first | exact Below.refl _ _ | assumption | apply bl_alloc | apply bl_drewN | apply bl_drew | refine bl_set ?_ ?_ _))) <;> (first | done | (simp; done) | (simp; omega) | omega)) b1)); (try have HX := Lib.hid (HX.out.below (bl_then (by (with_reducible (repeat' (first | exact Below.refl _ _ | assumption | apply bl_alloc | apply bl_drewN | apply bl_drew | refine bl_set ?_ ?_ _))) <;> (first | done | (simp; done) | (simp; omega) | omega)) b1))); (try have HX1 := Lib.hid (HX1.out.below (bl_then (by (with_reducible (repeat' (first | exact Below.refl _ _ | assumption | apply bl_alloc | apply bl_drewN | apply bl_drew | refine bl_set ?_ ?_ _))) <;> (first | done | (simp; done) | (simp; omega) | omega)) b1))); (try have HX2 := Lib.hid (HX2.out.below (bl_then (by (with_reducible (repeat' (first | exact Below.refl _ _ | assumption | apply bl_alloc | apply bl_drewN | apply bl_drew | refine bl_set ?_ ?_ _))) <;> (first | done | (simp; done) | (simp; omega) | omega)) b1))); (try have HX3 := Lib.hid (HX3.out.below (bl_then (by (with_reducible (repeat' (first | exact Below.refl _ _ | assumption | apply bl_alloc | apply bl_drewN | apply bl_drew | refine bl_set ?_ ?_ _))) <;> (first | done | (simp; done) | (simp; omega) | omega)) b1))); (try have HX4 := Lib.hid (HX4.out.below (bl_then (by (with_reducible (repeat' (first | exact Below.refl _ _ | assumption | apply bl_alloc | apply bl_drewN | apply bl_drew | refine bl_set ?_ ?_ _))) <;> (first | done | (simp; done) | (simp; omega) | omega)) b1))); (try have HO := Lib.hid (HO.out.below (bl_then (by (with_reducible (repeat' (first | exact Below.refl _ _ | assumption | apply bl_alloc | apply bl_drewN | apply bl_drew | refine bl_set ?_ ?_ _))) <;> (first | done | (simp; done) | (simp; omega) | omega)) b1))); (try have HO1 := Lib.hid (HO1.out.below (bl_then (by (with_reducible (repeat' (first | exact Below.refl _ _ | assumption | apply bl_alloc | apply bl_drewN | apply bl_drew | refine bl_set ?_ ?_ _))) <;> (first | done | (simp; done) | (simp; omega) | omega)) b1))); (try have HO2 := Lib.hid (HO2.out.below (bl_then (by (with_reducible (repeat' (first | exact Below.refl _ _ | assumption | apply bl_alloc | apply bl_drewN | apply bl_drew | refine bl_set ?_ ?_ _))) <;> (first | done | (simp; done) | (simp; omega) | omega)) b1))); (try have HO3 := Lib.hid (HO3.out.below (bl_then (by (with_reducible (repeat' (first | exact Below.refl _ _ | assumption | apply bl_alloc | apply bl_drewN | apply bl_drew | refine bl_set ?_ ?_ _))) <;> (first | done | (simp; done) | (simp; omega) | omega)) b1))); (have hB : Below w.heap.size w _ := bl_then (by (with_reducible (repeat' (first | exact Below.refl _ _ | assumption | apply bl_alloc | apply bl_drewN | apply bl_drew | refine bl_set ?_ ?_ _))) <;> (first | done | (simp; done) | (simp; omega) | omega)) b1); clear b1)
      | (go_at_call 13; refine Calls.mono (Beyond_one _ n hn (by simp [go_sem])) ?_; rw [hd.out]; rintro e w2 ⟨rfl, rfl⟩))
    go_upto_region 4 with (first | (refine wpList_load_own (by rfl) 39 _ rfl rfl (OwnL.trk oA (by (with_reducible (repeat' (first | exact Below.refl _ _ | assumption | apply bl_alloc | apply bl_drewN | apply bl_drew | refine bl_set ?_ ?_ _))) <;> (first | done | (simp; done) | (simp; omega) | omega))) _ Try.underlying39 rfl (by kernel_rfl) ?_) | (go_at_call 25; refine Calls.mono (HP.out _) ?_; intro e w3 hp; have hz := oA.1; obtain ⟨b3, hp⟩ := hp.twoN HE.out HL.out; (try have oA := OwnL.trk oA (bl_then (by (with_reducible (repeat' (first | exact Below.refl _ _ | assumption | apply bl_alloc | apply bl_drewN | apply bl_drew | refine bl_set ?_ ?_ _))) <;> (first | done | (simp; done) | (simp; omega) | omega)) b3)); (try have oB := OwnL.trk oB (bl_then (by (with_reducible (repeat' (first | exact Below.refl _ _ | assumption | apply bl_alloc | apply bl_drewN | apply bl_drew | refine bl_set ?_ ?_ _))) <;> (first | done | (simp; done) | (simp; omega) | omega)) b3)); (try have oC := OwnL.trk oC (bl_then (by (with_reducible (repeat' (first | exact Below.refl _ _ | assumption | apply bl_alloc | apply bl_drewN | apply bl_drew | refine bl_set ?_ ?_ _))) <;> (first | done | (simp; done) | (simp; omega) | omega)) b3)); (try have oD := OwnL.trk oD (bl_then (by (with_reducible (repeat' (first | exact Below.refl _ _ | assumption | apply bl_alloc | apply bl_drewN | apply bl_drew | refine bl_set ?_ ?_ _))) <;> (first | done | (simp; done) | (simp; omega) | omega)) b3)); (try have HX := Lib.hid (HX.out.below (bl_then (by (with_reducible (repeat' (first | exact Below.refl _ _ | assumption | apply bl_alloc | apply bl_drewN | apply bl_drew | refine bl_set ?_ ?_ _))) <;> (first | done | (simp; done) | (simp; omega) | omega)) b3))); (try have HX1 := Lib.hid (HX1.out.below (bl_then (by (with_reducible (repeat' (first | exact Below.refl _ _ | assumption | apply bl_alloc | apply bl_drewN | apply bl_drew | refine bl_set ?_ ?_ _))) <;> (first | done | (simp; done) | (simp; omega) | omega)) b3))); (try have HX2 := Lib.hid (HX2.out.below (bl_then (by (with_reducible (repeat' (first | exact Below.refl _ _ | assumption | apply bl_alloc | apply bl_drewN | apply bl_drew | refine bl_set ?_ ?_ _))) <;> (first | done | (simp; done) | (simp; omega) | omega)) b3))); (try have HX3 := Lib.hid (HX3.out.below (bl_then (by (with_reducible (repeat' (first | exact Below.refl _ _ | assumption | apply bl_alloc | apply bl_drewN | apply bl_drew | refine bl_set ?_ ?_ _))) <;> (first | done | (simp; done) | (simp; omega) | omega)) b3))); (try have HX4 := Lib.hid (HX4.out.below (bl_then (by (with_reducible (repeat' (first | exact Below.refl _ _ | assumption | apply bl_alloc | apply bl_drewN | apply bl_drew | refine bl_set ?_ ?_ _))) <;> (first | done | (simp; done) | (simp; omega) | omega)) b3))); (try have HO := Lib.hid (HO.out.below (bl_then (by (with_reducible (repeat' (first | exact Below.refl _ _ | assumption | apply bl_alloc | apply bl_drewN | apply bl_drew | refine bl_set ?_ ?_ _))) <;> (first | done | (simp; done) | (simp; omega) | omega)) b3))); (try have HO1 := Lib.hid (HO1.out.below (bl_then (by (with_reducible (repeat' (first | exact Below.refl _ _ | assumption | apply bl_alloc | apply bl_drewN | apply bl_drew | refine bl_set ?_ ?_ _))) <;> (first | done | (simp; done) | (simp; omega) | omega)) b3))); (try have HO2 := Lib.hid (HO2.out.below (bl_then (by (with_reducible (repeat' (first | exact Below.refl _ _ | assumption | apply bl_alloc | apply bl_drewN | apply bl_drew | refine bl_set ?_ ?_ _))) <;> (first | done | (simp; done) | (simp; omega) | omega)) b3))); (try have HO3 := Lib.hid (HO3.out.below (bl_then (by (with_reducible (repeat' (first | exact Below.refl _ _ | assumption | apply bl_alloc | apply bl_drewN | apply bl_drew | refine bl_set ?_ ?_ _))) <;> (first | done | (simp; done) | (simp; omega) | omega)) b3))); (have hB : Below w.heap.size w _ := bl_then (by (with_reducible (repeat' (first | exact Below.refl _ _ | assumption | apply bl_alloc | apply bl_drewN | apply bl_drew | refine bl_set ?_ ?_ _))) <;> (first | done | (simp; done) | (simp; omega) | omega)) b3); clear b3; rcases hp with ⟨bs, G, gc, hr, hbl, rfl, hgc, hmax, hbs, hO⟩ | ⟨hr, rfl⟩))
    · have HBS := Lib.hid hbs
      have HO := Lib.hid hO
      have HR := Lib.hid hr
      have hbx : w.heap.size < (w1.alloc (.cells #[.int .i64 n] 3)).heap.size := by simp; omega
      obtain ⟨base, hbase⟩ : ∃ m, (w1.alloc (.cells #[.int .i64 n] 3)).heap.size = m := ⟨_, rfl⟩
      rw [hbase] at HO hbx
      have HBL := Lib.hid hbl
      have HJ := Lib.hid hj
      have hGa := Lib.hid (fun W (hW : Bs W G j (bs.take j)) => (Calls.mono (GetSet_any (cap := gc) hW (by omega)) fun e w' h => h.bad (lawful_set.short _ _ HA.out hr j (by rw [hbl]; omega)) : Calls Try.prog 18 #[.slice G j gc] W fun e w' => e = .returned (.tuple #[eSet St.zero, .int .i64 0, .int .i64 4]) ∧ Below W.heap.size W w'))
      have hGb := Lib.hid (fun W G2 c2 (hW : Bs W G2 (k + n) (bs ++ xs)) (hc2 : k + n ≤ c2) => (Calls.mono (GetSet_any hW hc2) fun e w' h => h.good (v := a) (k := k) (by rw [lawful_set.back _ _ HA.out hr xs, hbl]) : Calls Try.prog 18 #[.slice G2 (k + n) c2] W fun e w' => e = .returned (.tuple #[eSet a, .int .i64 k, .int .i64 0]) ∧ Below W.heap.size W w'))
      have hlen : Hid ((bs ++ xs).length = k + n) := Lib.hid (by rw [List.length_append, hbl, HX.out.1])
      simp only [eSet, St.cells, St.zero] at hGa hGb
      clear hr hbl hbs hO hz HP HL HE
      go_wp2_with (first
        | (go_at_call 18; ((with_reducible refine Calls.mono (hGa.out _ (HBS.out.take j (by omega))) ?_); rintro e w4 ⟨rfl, b4⟩); (have oA := oA.trk b4); (have HO := Lib.hid (HO.out.below b4)); (have HX := Lib.hid (HX.out.below b4)); (have hB : Below w.heap.size w w4 := bl_then hB b4); clear b4)
        | (go_at_call 18; ((with_reducible refine Calls.mono (hGb.out _ _ _ hv2.out hc2) ?_); rintro e w6 ⟨rfl, b6⟩); (have oA := oA.trk b6); (have hB : Below w.heap.size w w6 := bl_then hB b6); clear b6)
        | (at_builtin; go_loud (refine wp_append_bs rfl _ _ rfl rfl rfl HO.out HX.out hnil (by have := HBL.out; have := hle.out; omega) (HO.out.base_le (by have := HBL.out; omega)) ?_; intro v' w5 hO' b5; (obtain ⟨G2, c2, hv, hc2, hBv⟩ := hO'.two); (rw [hlen.out] at hv hc2 hBv); (subst hv); (have hv2 := Lib.hid hBv); (have oA := oA.belowm b5 hbx); (have hB : Below w.heap.size w w5 := hB.trans (b5.mono (by omega))); clear b5 hBv hO'))
        | (refine wpList_store_new rfl 39 _ _ rfl [Value.bool false, .int .u32 0, .bool false, .int .u32 0, .bool false, .int .u32 0, .bool false, .int .u64 0, .int .u32 0, .int .u32 0, .int .u32 0, .int .u32 0, .int .u32 0, .int .u32 0] rfl rfl rfl (by kernel_rfl) (by simp [Value.oneCell']) ?_; intro wa ba oB; (have oA := oA.trk ba); (have HO := Lib.hid (HO.out.below ba)); (have HX := Lib.hid (HX.out.below ba)); (have hB : Below w.heap.size w wa := bl_then hB ba); clear ba)
        | (refine wpList_store_new rfl 39 _ _ rfl [Value.bool a.hasMode, .int .u32 a.mode, .bool a.hasUser, .int .u32 a.user, .bool a.hasGroup, .int .u32 a.group, .bool a.hasSize, .int .u64 a.size, .int .u32 a.readHow, .int .u32 a.read.sec, .int .u32 a.read.nano, .int .u32 a.writeHow, .int .u32 a.write.sec, .int .u32 a.write.nano] rfl rfl rfl (by kernel_rfl) (by simp [Value.oneCell']) ?_; intro wb bb oB; (have oA := oA.trk bb); (have hB : Below w.heap.size w wb := bl_then hB bb); clear bb)
        | (refine wpList_load_own (by kernel_rfl) 39 _ rfl rfl oB _ Try.underlying39 rfl (by kernel_rfl) ?_)
        | (refine wpList_load_own (by kernel_rfl) 39 _ rfl rfl oA _ Try.underlying39 rfl (by kernel_rfl) ?_))
      go_ret
      exact ⟨rfl, by (with_reducible (repeat' (first | exact Below.refl _ _ | assumption | apply bl_alloc | apply bl_drewN | apply bl_drew | refine bl_set ?_ ?_ _))) <;> (first | done | (simp; done) | (simp; omega) | omega)⟩
    · clear HP HL HE hr
      go_wp2_with fail
      go_ret
      exact ⟨rfl, by (with_reducible (repeat' (first | exact Below.refl _ _ | assumption | apply bl_alloc | apply bl_drewN | apply bl_drew | refine bl_set ?_ ?_ _))) <;> (first | done | (simp; done) | (simp; omega) | omega)⟩
end
end Go.Proofs.Ytkaapdnjlmceoaa

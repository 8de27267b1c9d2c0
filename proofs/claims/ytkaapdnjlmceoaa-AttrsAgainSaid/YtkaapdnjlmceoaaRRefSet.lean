/- The document's GetSet. Printed by gen_rdoor.py. -/
import Derived.Test.YtkaapdnjlmceoaaRSet
set_option linter.unusedVariables false
set_option linter.unusedSimpArgs false
namespace Go.Proofs.Ytkaapdnjlmceoaa
open Go.RowKit
theorem OwnL.new {w : World} {l : List Value} {t : TypeId} : OwnL (w.alloc (.cells l.toArray t)) w.heap.size l := ⟨by simp, fun o => by simp [go_sem], fun o => by simp [go_sem]⟩
theorem OwnL.alloc {w : World} {b : Nat} {l : List Value} (h : OwnL w b l) {o : Obj} : OwnL (w.alloc o) b l :=
  ⟨by have := h.1; simp; omega, fun i => (World.cell?_of_block (a := ⟨b, i, none⟩) (Below.heap_alloc _ _ _ h.1)).trans (h.2.1 i), fun i => (World.frozen?_of_block (a := ⟨b, i, none⟩) (Below.heap_alloc _ _ _ h.1)).trans (h.2.2 i)⟩
theorem OwnL.drew {w : World} {b : Nat} {l : List Value} (h : OwnL w b l) : OwnL w.drew b l := h
theorem RRB.new {w : World} {A : Option Addr} {n cap : Nat} : RRB (w.alloc (.cells #[.slice A n cap, .int .i64 0, .int .i64 0] 81)) w.heap.size A n cap 0 0 := by
  unfold RRB World.alloc; simp
theorem wp_world {P : Program} {c : Code} {Q : Exit → Act → World → Prop} {a : Act} {w : World} (S : World → Prop) (hS : S w) (h : ∀ w', S w' → c.wp P Q a w') : c.wp P Q a w := h w hS
section
variable {A : Option Addr} {n cap : Nat} {xs : List UInt8} {w : World}
set_option maxRecDepth 100000 in
set_option maxHeartbeats 8000000 in
theorem RGetSet_any (hB : Bs w A n xs) (hc : n ≤ cap) :
    Calls Try.prog 19 #[.slice A n cap] w (GetPost pSet eSet St.zero n xs w) := by
  have HB := Lib.hid hB
  clear hB
  go_enter Try.func19, Try.ntmps19
  go_wp2_with fail
  obtain ⟨wz, hwz⟩ : ∃ wz, (w.alloc (.cells #[.bool false, .int .u32 0, .bool false, .int .u32 0, .bool false, .int .u32 0, .bool false, .int .u64 0, .int .u32 0, .int .u32 0, .int .u32 0, .int .u32 0, .int .u32 0, .int .u32 0] 39)).alloc (.cells #[.slice A n cap, .int .i64 0, .int .i64 0] 81) = wz := ⟨_, rfl⟩
  rw [hwz]
  have hR : RRB wz (w.heap.size + 1) A n cap 0 0 := by rw [← hwz]; have h := RRB.new (w := w.alloc (.cells #[.bool false, .int .u32 0, .bool false, .int .u32 0, .bool false, .int .u32 0, .bool false, .int .u64 0, .int .u32 0, .int .u32 0, .int .u32 0, .int .u32 0, .int .u32 0, .int .u32 0] 39)) (A := A) (n := n) (cap := cap); simpa using h
  have HZ : OwnL wz w.heap.size [Value.bool false, .int .u32 0, .bool false, .int .u32 0, .bool false, .int .u32 0, .bool false, .int .u64 0, .int .u32 0, .int .u32 0, .int .u32 0, .int .u32 0, .int .u32 0, .int .u32 0] := by rw [← hwz]; exact OwnL.alloc ⟨by simp, fun o => by simp [go_sem], fun o => by simp [go_sem]⟩
  have hBz : Below w.heap.size w wz := by rw [← hwz]; (with_reducible (repeat' (first | exact Below.refl _ _ | assumption | apply bl_alloc | apply bl_drewN | apply bl_drew | refine bl_set ?_ ?_ _))) <;> (first | done | (simp; done) | (simp; omega) | omega)
  clear hwz
  refine (RSet_s hR (HB.out.below (hBz.mono (by omega))) hc (Nat.zero_le _)).mono ?_
  rintro e w1 ⟨v, k, er, hst, hk, rfl, hR1, hg⟩
  have hz0 := hg.size
  have hB1 : Below w.heap.size w w1 := below_grown hBz hg (by have := HZ.1; omega) (by omega)
  have HZ := HZ.grown hg (by omega)
  have hR1l := hR1.lt
  have hS := (OwnL.new (w := w1) (l := [Value.bool v.hasMode, .int .u32 v.mode, .bool v.hasUser, .int .u32 v.user, .bool v.hasGroup, .int .u32 v.group, .bool v.hasSize, .int .u64 v.size, .int .u32 v.readHow, .int .u32 v.read.sec, .int .u32 v.read.nano, .int .u32 v.writeHow, .int .u32 v.write.sec, .int .u32 v.write.nano]) (t := 39))
  have HS0 := Lib.hid hS
  have HZ0 := Lib.hid HZ
  have he := hR1.e
  have hRs : w.heap.size + 1 < w1.heap.size := hR1l
  clear hR hBz hg hS hz0
  simp only [eSet, St.cells, St.zero]
  go_upto_if 16 with fail
  have hne1 : ¬ w1.heap.size = w.heap.size + 1 := by omega
  have hne2 : ¬ w1.heap.size = w.heap.size := by omega
  refine wp_world (fun wx => OwnL wx w1.heap.size [Value.bool v.hasMode, .int .u32 v.mode, .bool v.hasUser, .int .u32 v.user, .bool v.hasGroup, .int .u32 v.group, .bool v.hasSize, .int .u64 v.size, .int .u32 v.readHow, .int .u32 v.read.sec, .int .u32 v.read.nano, .int .u32 v.writeHow, .int .u32 v.write.sec, .int .u32 v.write.nano] ∧ OwnL wx w.heap.size [Value.bool false, .int .u32 0, .bool false, .int .u32 0, .bool false, .int .u32 0, .bool false, .int .u64 0, .int .u32 0, .int .u32 0, .int .u32 0, .int .u32 0, .int .u32 0, .int .u32 0] ∧ RRB wx (w.heap.size + 1) A n cap k er ∧ Below w.heap.size w wx) ⟨HS0.out, by (with_reducible (repeat' (first | assumption | apply OwnL.set_ | apply OwnL.other | apply OwnL.alloc | apply OwnL.drew))) <;> (first | done | (simp; done) | (simp; omega) | omega), by (with_reducible (repeat' (first | assumption | apply RRB.other | apply RRB.alloc | apply RRB.drewN | apply RRB.drew))) <;> (first | done | (simp; done) | (simp; omega) | omega), by (with_reducible (repeat' (first | exact Below.refl _ _ | assumption | apply bl_alloc | apply bl_drewN | apply bl_drew | refine bl_set ?_ ?_ _))) <;> (first | done | (simp; done) | (simp; omega) | omega)⟩ ?_
  rintro wx ⟨hS, hZ, hR, hb⟩
  clear HS0 HZ0 HZ hR1 hB1 he
  have h1 := hR.at_; have h2 := hR.e
  have s0 := hS.1; have s1 := hS.2.1; have s2 := hS.2.2; have z0 := hZ.1; have z1 := hZ.2.1; have z2 := hZ.2.2
  have hRx := hR.lt
  have hk' : k ≤ n := hk
  have hn := HB.out.2.1
  rcases hst with ⟨_, rfl, j, hp, hkj⟩ | ⟨_, hne, hp⟩ | ⟨h, _⟩
  · rw [List.drop_zero] at hp
    have HP := Lib.hid hp; have HK := Lib.hid hkj
    clear hp hkj
    go_wp2_with fail
    first | (go_region_held3 (fun wy => (∀ o, wy.cell? ⟨w1.heap.size, o, none⟩ = [Value.bool v.hasMode, .int .u32 v.mode, .bool v.hasUser, .int .u32 v.user, .bool v.hasGroup, .int .u32 v.group, .bool v.hasSize, .int .u64 v.size, .int .u32 v.readHow, .int .u32 v.read.sec, .int .u32 v.read.nano, .int .u32 v.writeHow, .int .u32 v.write.sec, .int .u32 v.write.nano][o]?) ∧ wy.cell? ⟨w.heap.size + 1, 1, none⟩ = some (.int .i64 k)) (first | exact ⟨(show OwnL _ w1.heap.size [Value.bool v.hasMode, .int .u32 v.mode, .bool v.hasUser, .int .u32 v.user, .bool v.hasGroup, .int .u32 v.group, .bool v.hasSize, .int .u64 v.size, .int .u32 v.readHow, .int .u32 v.read.sec, .int .u32 v.read.nano, .int .u32 v.writeHow, .int .u32 v.write.sec, .int .u32 v.write.nano] from by (with_reducible (repeat' (first | assumption | apply OwnL.set_ | apply OwnL.other | apply OwnL.alloc | apply OwnL.drew))) <;> (first | done | (simp; done) | (simp; omega) | omega)).2.1, (show RRB _ (w.heap.size + 1) A n cap k 0 from by (with_reducible (repeat' (first | assumption | apply RRB.other | apply RRB.alloc | apply RRB.drewN | apply RRB.drew))) <;> (first | done | (simp; done) | (simp; omega) | omega)).at_⟩ | (go_keep)) (fail)) | fail "no way"
    go_wp2
    refine bodyPost_ret (v := .tuple #[.agg #[.bool v.hasMode, .int .u32 v.mode, .bool v.hasUser, .int .u32 v.user, .bool v.hasGroup, .int .u32 v.group, .bool v.hasSize, .int .u64 v.size, .int .u32 v.readHow, .int .u32 v.read.sec, .int .u32 v.read.nano, .int .u32 v.writeHow, .int .u32 v.write.sec, .int .u32 v.write.nano], .int .i64 k, .int .i64 0]) (by simp (maxDischargeDepth := 4) [results, Try.results19, go_sem, z0, z1, z2]) rfl ⟨by (with_reducible (repeat' (first | exact Below.refl _ _ | assumption | apply bl_alloc | apply bl_drewN | apply bl_drew | refine bl_set ?_ ?_ _))) <;> (first | done | (simp; done) | (simp; omega) | omega), .inl ⟨v, k, by rw [HP.out, HK.out, Nat.zero_add], hk', by simp [eSet, St.cells, St.zero]⟩⟩
  · rw [List.drop_zero] at hp
    have HP := Lib.hid hp
    have hne' : (er == 0) = false := beq_eq_false_iff_ne.2 hne
    clear hp hne
    go_wp2_with fail
    first | (go_region_held3 (fun wy => wy.cell? ⟨w.heap.size + 1, 2, none⟩ = some (.int .i64 er)) (first | exact (show RRB _ (w.heap.size + 1) A n cap k er from by (with_reducible (repeat' (first | assumption | apply RRB.other | apply RRB.alloc | apply RRB.drewN | apply RRB.drew))) <;> (first | done | (simp; done) | (simp; omega) | omega)).e | (go_keep)) (fail)) | fail "no way"
    go_wp2
    refine bodyPost_ret (v := .tuple #[.agg #[.bool false, .int .u32 0, .bool false, .int .u32 0, .bool false, .int .u32 0, .bool false, .int .u64 0, .int .u32 0, .int .u32 0, .int .u32 0, .int .u32 0, .int .u32 0, .int .u32 0], .int .i64 0, .int .i64 er]) (by simp (maxDischargeDepth := 4) [results, Try.results19, go_sem, z0, z1, z2]) rfl ⟨by (with_reducible (repeat' (first | exact Below.refl _ _ | assumption | apply bl_alloc | apply bl_drewN | apply bl_drew | refine bl_set ?_ ?_ _))) <;> (first | done | (simp; done) | (simp; omega) | omega), .inr ⟨er, HP.out, by simp [eSet, St.cells, St.zero]⟩⟩
  · exact absurd rfl h
end
end Go.Proofs.Ytkaapdnjlmceoaa

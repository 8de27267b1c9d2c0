/- The document's Reader: Attrs. Printed by gen_rread2.py. -/
import Derived.Test.YtkaapdnjlmceoaaRRead2
set_option linter.unusedVariables false
set_option linter.unusedSimpArgs false
namespace Go.Proofs.Ytkaapdnjlmceoaa
open Go.RowKit
section
variable {R : Nat} {A : Option Addr} {n cap k : Nat} {xs : List UInt8} {w : World} {er : Int}
theorem GetPost.three {α : Type} {p : Ps α} {enc : α → Value} {z : α} {n : Nat} {xs : List UInt8} : ∃ v j er, ((p xs = .ok (v, j) ∧ er = 0) ∨ (p xs = .error er ∧ v = z ∧ j = 0)) ∧ ∀ w e w', GetPost p enc z n xs w e w' → Below w.heap.size w w' ∧ e = .returned (.tuple #[enc v, .int .i64 j, .int .i64 er]) := by
  rcases hp : p xs with er | ⟨v, k⟩
  · refine ⟨z, 0, er, .inr ⟨rfl, rfl, rfl⟩, fun w e w' h => ⟨h.1, ?_⟩⟩
    rcases h.2 with ⟨v', k', h1, _⟩ | ⟨er', h1, rfl⟩
    · rw [hp] at h1; cases h1
    · rw [hp] at h1; injection h1 with h1; subst h1; rfl
  · refine ⟨v, k, 0, .inl ⟨rfl, rfl⟩, fun w e w' h => ⟨h.1, ?_⟩⟩
    rcases h.2 with ⟨v', k', h1, _, rfl⟩ | ⟨er', h1, _⟩
    · rw [hp] at h1; injection h1 with h1; injection h1 with h1 h2; subst h1; subst h2; rfl
    · rw [hp] at h1; cases h1
set_option maxRecDepth 100000 in
set_option maxHeartbeats 2000000 in
theorem RRAttrs_dead (hR : RRB w R A n cap k er) (he : er ≠ 0) : Calls Try.prog 76 #[.pointer (some ⟨R, 0, none⟩)] w fun e w' => e = .returned (eAttrs At.zero) ∧ Below w.heap.size w w' := by
  have h2 := hR.e
  have hRs := hR.lt
  have hne : ¬ w.heap.size = R := by omega
  have he : (er == 0) = false := beq_eq_false_iff_ne.2 he
  clear hR
  simp only [eAttrs, At.cells, At.zero]
  go_enter Try.func76, Try.ntmps76
  go_wp2
  exact bodyPost_ret (v := .agg #[.int .u32 0, .int .u32 0, .int .u32 0, .int .u32 0, .int .u32 0, .int .u64 0, .int .u64 0, .int .u64 0, .int .u32 0, .int .u32 0, .int .u32 0, .int .u32 0, .int .u32 0, .int .u32 0]) (by simp (maxDischargeDepth := 8) [results, Try.results76, go_sem]) rfl ⟨rfl, by (with_reducible (repeat' (first | exact Below.refl _ _ | assumption | apply bl_alloc | apply bl_drewN | apply bl_drew | refine bl_set ?_ ?_ _))) <;> (first | done | (simp; done) | (simp; omega) | omega)⟩
set_option maxRecDepth 100000 in
set_option maxHeartbeats 4000000 in
theorem RRAttrs (hR : RRB w R A n cap k 0) (hB : Bs w A n xs) (hc : n ≤ cap) (hk : k ≤ n) :
    Calls Try.prog 76 #[.pointer (some ⟨R, 0, none⟩)] w (RRPost pAttrs eAttrs At.zero R A n cap k xs w) := by
  have h0 := hR.b; have h1 := hR.at_; have h2 := hR.e; have hf1 := hR.free 1; have hf2 := hR.free 2
  have hn := hB.2.1
  have hRs := hR.lt
  have hneR : ¬ w.heap.size = R := by omega
  have hneR' : ¬ R = w.heap.size := by omega
  have hneR2 : ¬ R = w.heap.size + 1 := by omega
  have hneR3 : ¬ w.heap.size + 1 = R := by omega
  have HR := Lib.hid hR; have HB := Lib.hid hB
  obtain ⟨A', m, c', hD, hmc, hm, hcase⟩ := hB.rest hc hk
  have HD := Lib.hid hD
  have HG := Lib.hid (fun (w : World) (h : Bs w A' m (xs.drop k)) => RGet_any h hmc)
  obtain ⟨v, j, er, hv, hdet⟩ := GetPost.three (p := pAttrs) (enc := eAttrs) (z := At.zero) (n := m) (xs := xs.drop k)
  have HV := Lib.hid hv; have HT := Lib.hid hdet
  clear hv hdet
  have HLEN := Lib.hid (fun (v : At) (j : Nat) (h : pAttrs (xs.drop k) = .ok (v, j)) => pAttrs_len h (k := k) (n := n) ⟨by rw [List.length_drop, hB.1], hk⟩)
  clear hR hB hD
  rcases hcase with ⟨hck, rfl, rfl, rfl⟩ | ⟨rfl, rfl, rfl, rfl, rfl⟩
  · have hne : ¬ cap = k := by omega
    go_enter Try.func76, Try.ntmps76
    go_upto_region 3 with fail
    go_cut [3, 4, 5] (fun s3 s4 s5 wx => ∃ g : Nat, w.heap.size < g ∧ g < wx.heap.size ∧ s3 = .pointer (some ⟨g, 0, none⟩) ∧ s4 = .int .i64 j ∧ s5 = .int .i64 er ∧ wx.cell? ⟨g, 0, none⟩ = some (.int .u32 v.kind) ∧ wx.cell? ⟨g, 1, none⟩ = some (.int .u32 v.mode) ∧ wx.cell? ⟨g, 2, none⟩ = some (.int .u32 v.links) ∧ wx.cell? ⟨g, 3, none⟩ = some (.int .u32 v.user) ∧ wx.cell? ⟨g, 4, none⟩ = some (.int .u32 v.group) ∧ wx.cell? ⟨g, 5, none⟩ = some (.int .u64 v.size) ∧ wx.cell? ⟨g, 6, none⟩ = some (.int .u64 v.used) ∧ wx.cell? ⟨g, 7, none⟩ = some (.int .u64 v.id) ∧ wx.cell? ⟨g, 8, none⟩ = some (.int .u32 v.read.sec) ∧ wx.cell? ⟨g, 9, none⟩ = some (.int .u32 v.read.nano) ∧ wx.cell? ⟨g, 10, none⟩ = some (.int .u32 v.write.sec) ∧ wx.cell? ⟨g, 11, none⟩ = some (.int .u32 v.write.nano) ∧ wx.cell? ⟨g, 12, none⟩ = some (.int .u32 v.turn.sec) ∧ wx.cell? ⟨g, 13, none⟩ = some (.int .u32 v.turn.nano) ∧ (∀ o, wx.cell? ⟨w.heap.size, o, none⟩ = [Value.int .u32 0, .int .u32 0, .int .u32 0, .int .u32 0, .int .u32 0, .int .u64 0, .int .u64 0, .int .u64 0, .int .u32 0, .int .u32 0, .int .u32 0, .int .u32 0, .int .u32 0, .int .u32 0][o]?) ∧ (∀ o, wx.frozen? ⟨w.heap.size, o, none⟩ = false) ∧ Below w.heap.size w wx)
    case first =>
      go_region_held3 (fun wx => wx.cell? ⟨R, 0, none⟩ = some (.slice A n cap) ∧ wx.cell? ⟨R, 1, none⟩ = some (.int .i64 k)) (go_keep) (first | (go_at_call 16; refine Calls.mono (HG.out _ (HD.out.below (by (with_reducible (repeat' (first | exact Below.refl _ _ | assumption | apply bl_alloc | apply bl_drewN | apply bl_drew | refine bl_set ?_ ?_ _))) <;> (first | done | (simp; done) | (simp; omega) | omega)))) ?_; rintro e w1 hp; obtain ⟨b1, rfl⟩ := HT.out _ _ _ hp; clear hp; simp only [eAttrs, At.cells]; (have hb1 : Below w.heap.size w w1 := bl_then (by (with_reducible (repeat' (first | exact Below.refl _ _ | assumption | apply bl_alloc | apply bl_drewN | apply bl_drew | refine bl_set ?_ ?_ _))) <;> (first | done | (simp; done) | (simp; omega) | omega)) b1); (obtain ⟨hcx, hfx⟩ := bcell b1); (have hz := b1.size); simp at hz; (have hzz : w.heap.size < w1.heap.size := (by omega)); (have hk0 : w1.cell? ⟨R, 0, none⟩ = some (.slice A n cap) := (hcx _ 0 (by simp; try omega)).trans (by simp [go_sem, h0, hRs, hneR, hneR'])); (have hk1 : w1.cell? ⟨R, 1, none⟩ = some (.int .i64 k) := (hcx _ 1 (by simp; try omega)).trans (by simp [go_sem, h1, hRs, hneR, hneR'])); (have hr0 : ∀ o, w1.cell? ⟨w.heap.size, o, none⟩ = [Value.int .u32 0, .int .u32 0, .int .u32 0, .int .u32 0, .int .u32 0, .int .u64 0, .int .u64 0, .int .u64 0, .int .u32 0, .int .u32 0, .int .u32 0, .int .u32 0, .int .u32 0, .int .u32 0][o]? := fun o => (hcx _ o (by simp; try omega)).trans (by simp [go_sem])); (have hr1 : ∀ o, w1.frozen? ⟨w.heap.size, o, none⟩ = false := fun o => (hfx _ o (by simp; try omega)).trans (by simp [go_sem])); (have hz2 : w1.heap.size = w1.heap.size := rfl); (have hRl : R < w1.heap.size := (by omega)); (have hRne : ¬ R = w1.heap.size := (by omega)); clear b1))
      all_goals (go_wp2_with fail)
      all_goals go_meet
      all_goals exact ⟨_, by omega, by simp; try omega, rfl, rfl, rfl, by simp [go_sem, hcx], by simp [go_sem, hcx], by simp [go_sem, hcx], by simp [go_sem, hcx], by simp [go_sem, hcx], by simp [go_sem, hcx], by simp [go_sem, hcx], by simp [go_sem, hcx], by simp [go_sem, hcx], by simp [go_sem, hcx], by simp [go_sem, hcx], by simp [go_sem, hcx], by simp [go_sem, hcx], by simp [go_sem, hcx], fun o => by simp [go_sem, hr0, *], fun o => by simp [go_sem, hr1, *], by (with_reducible (repeat' (first | exact Below.refl _ _ | assumption | apply bl_alloc | apply bl_drewN | apply bl_drew | refine bl_set ?_ ?_ _))) <;> (first | done | (simp; done) | (simp; omega) | omega)⟩
    case rest =>
      obtain ⟨g, hg1, hg2, rfl, rfl, rfl, hc0, hc1, hc2, hc3, hc4, hc5, hc6, hc7, hc8, hc9, hc10, hc11, hc12, hc13, hr0, hr1, hb⟩ := hcut
      have HR1 := Lib.hid (HR.out.below hb)
      have h0 := HR1.out.b; have h1 := HR1.out.at_; have h2 := HR1.out.e; have hf1 := HR1.out.free 1; have hf2 := HR1.out.free 2
      have hgR : ¬ g = R := by omega
      have hgw : ¬ g = w.heap.size := by omega
      have hwl : w.heap.size < wc.heap.size := by omega
      have hG : w.grownBy wc (some R) := gb_below hb
      rcases HV.out with ⟨hp, rfl⟩ | ⟨hp, rfl, rfl⟩
      · obtain ⟨rfl, hkn⟩ := HLEN.out _ _ hp
        have HP := Lib.hid hp
        clear hp hb
        go_wp2
        refine bodyPost_ret (v := .agg #[.int .u32 v.kind, .int .u32 v.mode, .int .u32 v.links, .int .u32 v.user, .int .u32 v.group, .int .u64 v.size, .int .u64 v.used, .int .u64 v.id, .int .u32 v.read.sec, .int .u32 v.read.nano, .int .u32 v.write.sec, .int .u32 v.write.nano, .int .u32 v.turn.sec, .int .u32 v.turn.nano]) (by simp (maxDischargeDepth := 4) [results, Try.results76, go_sem, hwl, hr0, hr1, hneR, hneR', hgR, hgw]) rfl ⟨by (with_reducible (repeat' (first | exact World.grownBy.refl _ _ | assumption | apply gb_alloc | apply gb_drewN | apply gb_drew | apply gb_setR | refine gb_set ?_ ?_ _))) <;> (first | done | (simp; done) | (simp; omega) | omega), .inl ⟨_, _, HP.out, hkn, by simp [eAttrs, At.cells], ?_⟩⟩
        repeat (refine RRB.other ?_ (by simp; omega) _)
        exact (HR1.out.setE 0).setAt (k + 84)
      · have he0 : er ≠ 0 := pAttrs_err hp
        have HP := Lib.hid hp; have HE := Lib.hid he0
        clear hp he0 hb
        go_wp2
        refine bodyPost_ret (v := .agg #[.int .u32 0, .int .u32 0, .int .u32 0, .int .u32 0, .int .u32 0, .int .u64 0, .int .u64 0, .int .u64 0, .int .u32 0, .int .u32 0, .int .u32 0, .int .u32 0, .int .u32 0, .int .u32 0]) (by simp (maxDischargeDepth := 4) [results, Try.results76, go_sem, hwl, hr0, hr1, hneR, hneR', hgR, hgw, At.zero]) rfl ⟨by (with_reducible (repeat' (first | exact World.grownBy.refl _ _ | assumption | apply gb_alloc | apply gb_drewN | apply gb_drew | apply gb_setR | refine gb_set ?_ ?_ _))) <;> (first | done | (simp; done) | (simp; omega) | omega), .inr ⟨_, HP.out, HE.out, by simp [eAttrs, At.cells, At.zero], ?_⟩⟩
        repeat (refine RRB.other ?_ (by simp; omega) _)
        exact (HR1.out.setE er).setAt _
  · clear hm hmc hc hk
    go_enter Try.func76, Try.ntmps76
    go_upto_region 3 with fail
    go_cut [3, 4, 5] (fun s3 s4 s5 wx => ∃ g : Nat, w.heap.size < g ∧ g < wx.heap.size ∧ s3 = .pointer (some ⟨g, 0, none⟩) ∧ s4 = .int .i64 j ∧ s5 = .int .i64 er ∧ wx.cell? ⟨g, 0, none⟩ = some (.int .u32 v.kind) ∧ wx.cell? ⟨g, 1, none⟩ = some (.int .u32 v.mode) ∧ wx.cell? ⟨g, 2, none⟩ = some (.int .u32 v.links) ∧ wx.cell? ⟨g, 3, none⟩ = some (.int .u32 v.user) ∧ wx.cell? ⟨g, 4, none⟩ = some (.int .u32 v.group) ∧ wx.cell? ⟨g, 5, none⟩ = some (.int .u64 v.size) ∧ wx.cell? ⟨g, 6, none⟩ = some (.int .u64 v.used) ∧ wx.cell? ⟨g, 7, none⟩ = some (.int .u64 v.id) ∧ wx.cell? ⟨g, 8, none⟩ = some (.int .u32 v.read.sec) ∧ wx.cell? ⟨g, 9, none⟩ = some (.int .u32 v.read.nano) ∧ wx.cell? ⟨g, 10, none⟩ = some (.int .u32 v.write.sec) ∧ wx.cell? ⟨g, 11, none⟩ = some (.int .u32 v.write.nano) ∧ wx.cell? ⟨g, 12, none⟩ = some (.int .u32 v.turn.sec) ∧ wx.cell? ⟨g, 13, none⟩ = some (.int .u32 v.turn.nano) ∧ (∀ o, wx.cell? ⟨w.heap.size, o, none⟩ = [Value.int .u32 0, .int .u32 0, .int .u32 0, .int .u32 0, .int .u32 0, .int .u64 0, .int .u64 0, .int .u64 0, .int .u32 0, .int .u32 0, .int .u32 0, .int .u32 0, .int .u32 0, .int .u32 0][o]?) ∧ (∀ o, wx.frozen? ⟨w.heap.size, o, none⟩ = false) ∧ Below w.heap.size w wx)
    case first =>
      go_region_held3 (fun wx => wx.cell? ⟨R, 0, none⟩ = some (.slice A' n n) ∧ wx.cell? ⟨R, 1, none⟩ = some (.int .i64 n)) (go_keep) (first | (go_at_call 16; refine Calls.mono (HG.out _ (HD.out.below (by (with_reducible (repeat' (first | exact Below.refl _ _ | assumption | apply bl_alloc | apply bl_drewN | apply bl_drew | refine bl_set ?_ ?_ _))) <;> (first | done | (simp; done) | (simp; omega) | omega)))) ?_; rintro e w1 hp; obtain ⟨b1, rfl⟩ := HT.out _ _ _ hp; clear hp; simp only [eAttrs, At.cells]; (have hb1 : Below w.heap.size w w1 := bl_then (by (with_reducible (repeat' (first | exact Below.refl _ _ | assumption | apply bl_alloc | apply bl_drewN | apply bl_drew | refine bl_set ?_ ?_ _))) <;> (first | done | (simp; done) | (simp; omega) | omega)) b1); (obtain ⟨hcx, hfx⟩ := bcell b1); (have hz := b1.size); simp at hz; (have hzz : w.heap.size < w1.heap.size := (by omega)); (have hk0 : w1.cell? ⟨R, 0, none⟩ = some (.slice A' n n) := (hcx _ 0 (by simp; try omega)).trans (by simp [go_sem, h0, hRs, hneR, hneR'])); (have hk1 : w1.cell? ⟨R, 1, none⟩ = some (.int .i64 n) := (hcx _ 1 (by simp; try omega)).trans (by simp [go_sem, h1, hRs, hneR, hneR'])); (have hr0 : ∀ o, w1.cell? ⟨w.heap.size, o, none⟩ = [Value.int .u32 0, .int .u32 0, .int .u32 0, .int .u32 0, .int .u32 0, .int .u64 0, .int .u64 0, .int .u64 0, .int .u32 0, .int .u32 0, .int .u32 0, .int .u32 0, .int .u32 0, .int .u32 0][o]? := fun o => (hcx _ o (by simp; try omega)).trans (by simp [go_sem])); (have hr1 : ∀ o, w1.frozen? ⟨w.heap.size, o, none⟩ = false := fun o => (hfx _ o (by simp; try omega)).trans (by simp [go_sem])); (have hz2 : w1.heap.size = w1.heap.size := rfl); (have hRl : R < w1.heap.size := (by omega)); (have hRne : ¬ R = w1.heap.size := (by omega)); clear b1))
      all_goals (go_wp2_with fail)
      all_goals go_meet
      all_goals exact ⟨_, by omega, by simp; try omega, rfl, rfl, rfl, by simp [go_sem, hcx], by simp [go_sem, hcx], by simp [go_sem, hcx], by simp [go_sem, hcx], by simp [go_sem, hcx], by simp [go_sem, hcx], by simp [go_sem, hcx], by simp [go_sem, hcx], by simp [go_sem, hcx], by simp [go_sem, hcx], by simp [go_sem, hcx], by simp [go_sem, hcx], by simp [go_sem, hcx], by simp [go_sem, hcx], fun o => by simp [go_sem, hr0, *], fun o => by simp [go_sem, hr1, *], by (with_reducible (repeat' (first | exact Below.refl _ _ | assumption | apply bl_alloc | apply bl_drewN | apply bl_drew | refine bl_set ?_ ?_ _))) <;> (first | done | (simp; done) | (simp; omega) | omega)⟩
    case rest =>
      obtain ⟨g, hg1, hg2, rfl, rfl, rfl, hc0, hc1, hc2, hc3, hc4, hc5, hc6, hc7, hc8, hc9, hc10, hc11, hc12, hc13, hr0, hr1, hb⟩ := hcut
      have HR1 := Lib.hid (HR.out.below hb)
      have h0 := HR1.out.b; have h1 := HR1.out.at_; have h2 := HR1.out.e; have hf1 := HR1.out.free 1; have hf2 := HR1.out.free 2
      have hgR : ¬ g = R := by omega
      have hgw : ¬ g = w.heap.size := by omega
      have hwl : w.heap.size < wc.heap.size := by omega
      have hG : w.grownBy wc (some R) := gb_below hb
      rcases HV.out with ⟨hp, rfl⟩ | ⟨hp, rfl, rfl⟩
      · obtain ⟨rfl, hkn⟩ := HLEN.out _ _ hp
        have HP := Lib.hid hp
        clear hp hb
        exfalso; omega
      · have he0 : er ≠ 0 := pAttrs_err hp
        have HP := Lib.hid hp; have HE := Lib.hid he0
        clear hp he0 hb
        go_wp2
        refine bodyPost_ret (v := .agg #[.int .u32 0, .int .u32 0, .int .u32 0, .int .u32 0, .int .u32 0, .int .u64 0, .int .u64 0, .int .u64 0, .int .u32 0, .int .u32 0, .int .u32 0, .int .u32 0, .int .u32 0, .int .u32 0]) (by simp (maxDischargeDepth := 4) [results, Try.results76, go_sem, hwl, hr0, hr1, hneR, hneR', hgR, hgw, At.zero]) rfl ⟨by (with_reducible (repeat' (first | exact World.grownBy.refl _ _ | assumption | apply gb_alloc | apply gb_drewN | apply gb_drew | apply gb_setR | refine gb_set ?_ ?_ _))) <;> (first | done | (simp; done) | (simp; omega) | omega), .inr ⟨_, HP.out, HE.out, by simp [eAttrs, At.cells, At.zero], ?_⟩⟩
        repeat (refine RRB.other ?_ (by simp; omega) _)
        exact (HR1.out.setE er).setAt _
end
end Go.Proofs.Ytkaapdnjlmceoaa

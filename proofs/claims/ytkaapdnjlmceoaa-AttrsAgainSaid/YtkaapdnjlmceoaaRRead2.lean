/- The document's Reader: Time, Attrs. Printed by gen_rread2.py. -/
import Derived.Test.YtkaapdnjlmceoaaRTime
set_option linter.unusedVariables false
set_option linter.unusedSimpArgs false
namespace Go.Proofs.Ytkaapdnjlmceoaa
open Go.RowKit
section
variable {R : Nat} {A : Option Addr} {n cap k : Nat} {xs : List UInt8} {w : World} {er : Int}
theorem pAttrs_err {b : List UInt8} {er : Int} (h : pAttrs b = .error er) : er ≠ 0 := by
  simp only [pAttrs] at h
  split at h
  · injection h with h; omega
  · split at h
    · cases h
    · injection h with h; omega
theorem pAttrs_len {b : List UInt8} {v : At} {j : Nat} (h : pAttrs b = .ok (v, j)) {k n : Nat} (hl : b.length = n - k ∧ k ≤ n) : j = 84 ∧ k + 84 ≤ n := by
  simp only [pAttrs] at h
  split at h
  · cases h
  · split at h
    · injection h with h; injection h with h1 h2; exact ⟨h2.symm, by omega⟩
    · cases h
set_option maxRecDepth 100000 in
set_option maxHeartbeats 2000000 in
theorem RRTime_dead (hR : RRB w R A n cap k er) (he : er ≠ 0) : Calls Try.prog 71 #[.pointer (some ⟨R, 0, none⟩)] w fun e w' => e = .returned (eTime ⟨0, 0⟩) ∧ Below w.heap.size w w' := by
  have h2 := hR.e
  have hRs := hR.lt
  have hne : ¬ w.heap.size = R := by omega
  have he : (er == 0) = false := beq_eq_false_iff_ne.2 he
  clear hR
  simp only [eTime]
  go_enter Try.func71, Try.ntmps71
  go_wp2
  exact bodyPost_ret (v := .agg #[.int .u32 0, .int .u32 0]) (by simp (maxDischargeDepth := 8) [results, Try.results71, go_sem]) rfl ⟨rfl, by (with_reducible (repeat' (first | exact Below.refl _ _ | assumption | apply bl_alloc | apply bl_drewN | apply bl_drew | refine bl_set ?_ ?_ _))) <;> (first | done | (simp; done) | (simp; omega) | omega)⟩
set_option maxRecDepth 100000 in
set_option maxHeartbeats 4000000 in
theorem RRTime (hR : RRB w R A n cap k 0) (hB : Bs w A n xs) (hc : n ≤ cap) (hk : k ≤ n) :
    Calls Try.prog 71 #[.pointer (some ⟨R, 0, none⟩)] w (RRPost pTime eTime ⟨0, 0⟩ R A n cap k xs w) := by
  have h0 := hR.b; have h1 := hR.at_; have h2 := hR.e; have hf1 := hR.free 1; have hf2 := hR.free 2
  have hn := hB.2.1
  have hRs := hR.lt
  have hneR : ¬ w.heap.size = R := by omega
  have hneR' : ¬ R = w.heap.size := by omega
  have hneR2 : ¬ R = w.heap.size + 1 := by omega
  have hneR3 : ¬ w.heap.size + 1 = R := by omega
  have HR := Lib.hid hR; have HB := Lib.hid hB
  obtain ⟨A', m, c', hD, hmc, hm, hcase⟩ := hB.rest hc hk
  have HD := Lib.hid hD
  have HG := Lib.hid (fun (w : World) (h : Bs w A' m (xs.drop k)) => RTGet h hmc)
  obtain ⟨v, er, hv⟩ : ∃ v er, outP pTime ⟨0, 0⟩ (xs.drop k) = (v, er) := ⟨_, _, rfl⟩
  rw [hv] at HG
  have HV := Lib.hid hv
  clear hv
  have HLEN := Lib.hid (fun (v : Tm) (j : Nat) (h : pTime (xs.drop k) = .ok (v, j)) => pTime_len h (k := k) (n := n) ⟨by rw [List.length_drop, hB.1], hk⟩)
  clear hR hB hD
  rcases hcase with ⟨hck, rfl, rfl, rfl⟩ | ⟨rfl, rfl, rfl, rfl, rfl⟩
  · have hne : ¬ cap = k := by omega
    go_enter Try.func71, Try.ntmps71
    go_upto_region 3 with fail
    go_cut [3, 4] (fun s3 s4 wx => ∃ g : Nat, w.heap.size < g ∧ g < wx.heap.size ∧ s3 = .pointer (some ⟨g, 0, none⟩) ∧ s4 = .int .i64 er ∧ wx.cell? ⟨g, 0, none⟩ = some (.int .u32 v.sec) ∧ wx.cell? ⟨g, 1, none⟩ = some (.int .u32 v.nano) ∧ (∀ o, wx.cell? ⟨w.heap.size, o, none⟩ = [Value.int .u32 0, .int .u32 0][o]?) ∧ (∀ o, wx.frozen? ⟨w.heap.size, o, none⟩ = false) ∧ Below w.heap.size w wx)
    case first =>
      go_region_held3 (fun wx => wx.cell? ⟨R, 0, none⟩ = some (.slice A n cap) ∧ wx.cell? ⟨R, 1, none⟩ = some (.int .i64 k)) (go_keep) (first | (go_at_call 91; refine Calls.mono (HG.out _ (HD.out.below (by (with_reducible (repeat' (first | exact Below.refl _ _ | assumption | apply bl_alloc | apply bl_drewN | apply bl_drew | refine bl_set ?_ ?_ _))) <;> (first | done | (simp; done) | (simp; omega) | omega)))) ?_; rintro e w1 ⟨rfl, b1⟩; simp only [eTime]; (have hb1 : Below w.heap.size w w1 := bl_then (by (with_reducible (repeat' (first | exact Below.refl _ _ | assumption | apply bl_alloc | apply bl_drewN | apply bl_drew | refine bl_set ?_ ?_ _))) <;> (first | done | (simp; done) | (simp; omega) | omega)) b1); (obtain ⟨hcx, hfx⟩ := bcell b1); (have hz := b1.size); simp at hz; (have hzz : w.heap.size < w1.heap.size := (by omega)); (have hk0 : w1.cell? ⟨R, 0, none⟩ = some (.slice A n cap) := (hcx _ 0 (by simp; try omega)).trans (by simp [go_sem, h0, hRs, hneR, hneR'])); (have hk1 : w1.cell? ⟨R, 1, none⟩ = some (.int .i64 k) := (hcx _ 1 (by simp; try omega)).trans (by simp [go_sem, h1, hRs, hneR, hneR'])); (have hr0 : ∀ o, w1.cell? ⟨w.heap.size, o, none⟩ = [Value.int .u32 0, .int .u32 0][o]? := fun o => (hcx _ o (by simp; try omega)).trans (by simp [go_sem])); (have hr1 : ∀ o, w1.frozen? ⟨w.heap.size, o, none⟩ = false := fun o => (hfx _ o (by simp; try omega)).trans (by simp [go_sem])); (have hz2 : w1.heap.size = w1.heap.size := rfl); (have hRl : R < w1.heap.size := (by omega)); (have hRne : ¬ R = w1.heap.size := (by omega)); clear b1))
      all_goals (go_wp2_with fail)
      all_goals go_meet
      all_goals exact ⟨_, by omega, by simp; try omega, rfl, rfl, by simp [go_sem, hcx], by simp [go_sem, hcx], fun o => by simp [go_sem, hr0, *], fun o => by simp [go_sem, hr1, *], by (with_reducible (repeat' (first | exact Below.refl _ _ | assumption | apply bl_alloc | apply bl_drewN | apply bl_drew | refine bl_set ?_ ?_ _))) <;> (first | done | (simp; done) | (simp; omega) | omega)⟩
    case rest =>
      obtain ⟨g, hg1, hg2, rfl, rfl, hc0, hc1, hr0, hr1, hb⟩ := hcut
      have HR1 := Lib.hid (HR.out.below hb)
      have h0 := HR1.out.b; have h1 := HR1.out.at_; have h2 := HR1.out.e; have hf1 := HR1.out.free 1; have hf2 := HR1.out.free 2
      have hgR : ¬ g = R := by omega
      have hgw : ¬ g = w.heap.size := by omega
      have hwl : w.heap.size < wc.heap.size := by omega
      have hG : w.grownBy wc (some R) := gb_below hb
      have hv := HV.out
      rcases hp : pTime (xs.drop k) with er' | ⟨v', j⟩
      · rw [outP_bad hp] at hv
        obtain ⟨rfl, rfl⟩ := Prod.mk.inj hv
        have he0 : er' ≠ 0 := pTime_err hp
        have he : (er' == 0) = false := beq_eq_false_iff_ne.2 he0
        have HP := Lib.hid hp; have HE := Lib.hid he0
        clear hp he0 hv hb
        go_wp2
        refine bodyPost_ret (v := .agg #[.int .u32 0, .int .u32 0]) (by simp (maxDischargeDepth := 8) [results, Try.results71, go_sem, *]) rfl ⟨by (with_reducible (repeat' (first | exact World.grownBy.refl _ _ | assumption | apply gb_alloc | apply gb_drewN | apply gb_drew | apply gb_setR | refine gb_set ?_ ?_ _))) <;> (first | done | (simp; done) | (simp; omega) | omega), .inr ⟨_, HP.out, HE.out, by simp [eTime], ?_⟩⟩
        exact (((HR1.out.setE _).other (by simp; omega) _).other (by simp; omega) _)
      · rw [outP_ok hp] at hv
        obtain ⟨rfl, rfl⟩ := Prod.mk.inj hv
        obtain ⟨rfl, hkn⟩ := HLEN.out _ _ hp
        have HP := Lib.hid hp
        clear hp hv hb
        go_wp2
        refine bodyPost_ret (v := .agg #[.int .u32 v'.sec, .int .u32 v'.nano]) (by simp (maxDischargeDepth := 8) [results, Try.results71, go_sem, *]) rfl ⟨by (with_reducible (repeat' (first | exact World.grownBy.refl _ _ | assumption | apply gb_alloc | apply gb_drewN | apply gb_drew | apply gb_setR | refine gb_set ?_ ?_ _))) <;> (first | done | (simp; done) | (simp; omega) | omega), .inl ⟨_, _, HP.out, hkn, by simp [eTime], ?_⟩⟩
        exact (((HR1.out.setE 0).setAt (k + 8)).other (by simp; omega) _).other (by simp; omega) _
  · clear hm hmc hc hk
    go_enter Try.func71, Try.ntmps71
    go_upto_region 3 with fail
    go_cut [3, 4] (fun s3 s4 wx => ∃ g : Nat, w.heap.size < g ∧ g < wx.heap.size ∧ s3 = .pointer (some ⟨g, 0, none⟩) ∧ s4 = .int .i64 er ∧ wx.cell? ⟨g, 0, none⟩ = some (.int .u32 v.sec) ∧ wx.cell? ⟨g, 1, none⟩ = some (.int .u32 v.nano) ∧ (∀ o, wx.cell? ⟨w.heap.size, o, none⟩ = [Value.int .u32 0, .int .u32 0][o]?) ∧ (∀ o, wx.frozen? ⟨w.heap.size, o, none⟩ = false) ∧ Below w.heap.size w wx)
    case first =>
      go_region_held3 (fun wx => wx.cell? ⟨R, 0, none⟩ = some (.slice A' n n) ∧ wx.cell? ⟨R, 1, none⟩ = some (.int .i64 n)) (go_keep) (first | (go_at_call 91; refine Calls.mono (HG.out _ (HD.out.below (by (with_reducible (repeat' (first | exact Below.refl _ _ | assumption | apply bl_alloc | apply bl_drewN | apply bl_drew | refine bl_set ?_ ?_ _))) <;> (first | done | (simp; done) | (simp; omega) | omega)))) ?_; rintro e w1 ⟨rfl, b1⟩; simp only [eTime]; (have hb1 : Below w.heap.size w w1 := bl_then (by (with_reducible (repeat' (first | exact Below.refl _ _ | assumption | apply bl_alloc | apply bl_drewN | apply bl_drew | refine bl_set ?_ ?_ _))) <;> (first | done | (simp; done) | (simp; omega) | omega)) b1); (obtain ⟨hcx, hfx⟩ := bcell b1); (have hz := b1.size); simp at hz; (have hzz : w.heap.size < w1.heap.size := (by omega)); (have hk0 : w1.cell? ⟨R, 0, none⟩ = some (.slice A' n n) := (hcx _ 0 (by simp; try omega)).trans (by simp [go_sem, h0, hRs, hneR, hneR'])); (have hk1 : w1.cell? ⟨R, 1, none⟩ = some (.int .i64 n) := (hcx _ 1 (by simp; try omega)).trans (by simp [go_sem, h1, hRs, hneR, hneR'])); (have hr0 : ∀ o, w1.cell? ⟨w.heap.size, o, none⟩ = [Value.int .u32 0, .int .u32 0][o]? := fun o => (hcx _ o (by simp; try omega)).trans (by simp [go_sem])); (have hr1 : ∀ o, w1.frozen? ⟨w.heap.size, o, none⟩ = false := fun o => (hfx _ o (by simp; try omega)).trans (by simp [go_sem])); (have hz2 : w1.heap.size = w1.heap.size := rfl); (have hRl : R < w1.heap.size := (by omega)); (have hRne : ¬ R = w1.heap.size := (by omega)); clear b1))
      all_goals (go_wp2_with fail)
      all_goals go_meet
      all_goals exact ⟨_, by omega, by simp; try omega, rfl, rfl, by simp [go_sem, hcx], by simp [go_sem, hcx], fun o => by simp [go_sem, hr0, *], fun o => by simp [go_sem, hr1, *], by (with_reducible (repeat' (first | exact Below.refl _ _ | assumption | apply bl_alloc | apply bl_drewN | apply bl_drew | refine bl_set ?_ ?_ _))) <;> (first | done | (simp; done) | (simp; omega) | omega)⟩
    case rest =>
      obtain ⟨g, hg1, hg2, rfl, rfl, hc0, hc1, hr0, hr1, hb⟩ := hcut
      have HR1 := Lib.hid (HR.out.below hb)
      have h0 := HR1.out.b; have h1 := HR1.out.at_; have h2 := HR1.out.e; have hf1 := HR1.out.free 1; have hf2 := HR1.out.free 2
      have hgR : ¬ g = R := by omega
      have hgw : ¬ g = w.heap.size := by omega
      have hwl : w.heap.size < wc.heap.size := by omega
      have hG : w.grownBy wc (some R) := gb_below hb
      have hv := HV.out
      rcases hp : pTime (xs.drop n) with er' | ⟨v', j⟩
      · rw [outP_bad hp] at hv
        obtain ⟨rfl, rfl⟩ := Prod.mk.inj hv
        have he0 : er' ≠ 0 := pTime_err hp
        have he : (er' == 0) = false := beq_eq_false_iff_ne.2 he0
        have HP := Lib.hid hp; have HE := Lib.hid he0
        clear hp he0 hv hb
        go_wp2
        refine bodyPost_ret (v := .agg #[.int .u32 0, .int .u32 0]) (by simp (maxDischargeDepth := 8) [results, Try.results71, go_sem, *]) rfl ⟨by (with_reducible (repeat' (first | exact World.grownBy.refl _ _ | assumption | apply gb_alloc | apply gb_drewN | apply gb_drew | apply gb_setR | refine gb_set ?_ ?_ _))) <;> (first | done | (simp; done) | (simp; omega) | omega), .inr ⟨_, HP.out, HE.out, by simp [eTime], ?_⟩⟩
        exact (((HR1.out.setE _).other (by simp; omega) _).other (by simp; omega) _)
      · rw [outP_ok hp] at hv
        obtain ⟨rfl, rfl⟩ := Prod.mk.inj hv
        obtain ⟨rfl, hkn⟩ := HLEN.out _ _ hp
        have HP := Lib.hid hp
        clear hp hv hb
        exfalso; omega
end
end Go.Proofs.Ytkaapdnjlmceoaa

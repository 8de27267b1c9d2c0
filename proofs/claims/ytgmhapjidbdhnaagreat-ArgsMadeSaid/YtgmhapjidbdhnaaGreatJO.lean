/- parts.of over [8]byte: what the part does when it writes. -/
import Derived.Test.YtgmhapjidbdhnaaGreatJI
import Derived.Deep.RegionHeld2
set_option linter.unusedVariables false
set_option linter.unusedSimpArgs false
namespace Go.Proofs.YtgmhapjidbdhnaaGreat
open Go.RowKit
set_option maxRecDepth 100000 in
set_option maxHeartbeats 4000000 in
theorem ofT_wr {σ α : Type} {Rep : World → σ → Prop} {R : Nat} {Q : Nat → Prop} {w0 : World} {lo T o d : Nat} {fv gv pv : Value} {q : α → Except Int (List UInt8)} {enc : α → List Value} {wf : α → Prop} {get : σ → α}
    (hW : RepW Rep R Q w0) (hF : FldGM Rep T o enc wf get) (hsh : OfShape 124 w0 lo fv gv pv T o) (hlo : ∀ i, lo ≤ i → i < w0.heap.size → ¬ Q i) (hg : PutterM (Only Q w0) pv q enc wf d)
    (hle : ∀ y, wf y → (enc y).length = 2) :
    ∃ cap, fv = .func (.func 124) #[] cap ∧ WrPart Rep R Q w0 124 cap (fun s => q (get s)) d := by
  obtain ⟨X, G, Pb, rfl, a1, a2, a3, a4, a5, a6, c1, c2, c3⟩ := hsh.box
  refine ⟨_, rfl, fun args w => by kernel_rfl, fun w s bs hRep hq => ?_, fun w s v e ho hRep he hR => ?_, fun w s v acc ho hRep hR hA hAi hAc => ?_⟩
  · exact hg.1 _ bs (hF.has w s hRep).2 hq
  · have h3 : w.cell? ⟨R, 3, none⟩ = some (.int .i64 e) := hR.2.1 3
    have hRl := hR.1
    have he2 : ¬ e = 0 := he
    have HR := Lib.hid hR
    clear hR hRep ho he hlo hF hW hg hsh c1 c2 c3
    show Calls Tryz.prog 124 #[.pointer (some ⟨R, 0, none⟩), .pointer (some ⟨Pb, 0, none⟩), .pointer (some ⟨X, 0, none⟩), .pointer (some ⟨G, 0, none⟩)] w _
    go_enter Tryz.func124, Tryz.ntmps124
    go_wp2
    refine bodyPost_ret (results_none rfl _ _ _) rfl ?_
    exact ⟨rfl, Only.refl _ _, HR.out⟩
  · have hX : w.cell? ⟨X, 0, none⟩ = some (.pointer (some ⟨T, o, none⟩)) := (ho.cell (a := ⟨X, 0, none⟩) a2 (hlo _ a1 a2)).trans c1
    have hPb : w.cell? ⟨Pb, 0, none⟩ = some pv := (ho.cell (a := ⟨Pb, 0, none⟩) a6 (hlo _ a5 a6)).trans c3
    have hXl : X < w.heap.size := Nat.lt_of_lt_of_le a2 ho.size
    have hPl : Pb < w.heap.size := Nat.lt_of_lt_of_le a6 ho.size
    have HTl := Lib.hid (hF.lt _ _ hRep)
    obtain ⟨hu, hD⟩ := hF.has w s hRep
    have h2 : w.cell? ⟨R, 2, none⟩ = some (.bool false) := hR.2.1 2
    have h3 : w.cell? ⟨R, 3, none⟩ = some (.int .i64 0) := hR.2.1 3
    have hRl := hR.1
    obtain ⟨hln, f, cap, rfl, eg, hcall⟩ := hg
    have eg2 : ∀ (args : Array Value) (wx : World), (callFunc f args).run Tryz.prog wx = .ok (.enter f args) wx := eg
    have HAc := Lib.hid hAc; have HA := Lib.hid hA; have HAi := Lib.hid hAi; have HLn := Lib.hid hln; have HU := Lib.hid hu; have HLe := Lib.hid (hle (get s) hD)
    have HC := Lib.hid hcall; have HO := Lib.hid ho; have HW := Lib.hid hW; have HF := Lib.hid hF; have HRep := Lib.hid hRep
    have HR := Lib.hid hR; have HD := Lib.hid hD
    clear hA hAc hAi hln hcall ho hW hF hRep hR hD eg hlo hsh c1 c2 c3 a1 a2 a3 a4 a5 a6 hu hle
    show Calls Tryz.prog 124 #[.pointer (some ⟨R, 0, none⟩), .pointer (some ⟨Pb, 0, none⟩), .pointer (some ⟨X, 0, none⟩), .pointer (some ⟨G, 0, none⟩)] w _
    rcases hpp : q (get s) with er | bs
    · skip
      have HPP := Lib.hid hpp
      clear hpp
      go_enter Tryz.func124, Tryz.ntmps124
      go_upto_region 2 with fail
      have hrng := fun (wq : World) (h : wq.rangeAt T o (enc (get s)) ∧ wq.cell? ⟨Pb, 0, none⟩ = some (.func (.func f) #[] cap) ∧ wq.cell? ⟨X, 0, none⟩ = some (.pointer (some ⟨T, o, none⟩))) => h.1
      refine wp_region_held_drew (S := fun wq => wq.rangeAt T o (enc (get s)) ∧ wq.cell? ⟨Pb, 0, none⟩ = some (.func (.func f) #[] cap) ∧ wq.cell? ⟨X, 0, none⟩ = some (.pointer (some ⟨T, o, none⟩))) rfl ⟨HU.out, hPb, hX⟩ fun hS0 => ?_
      (refine wpAnyH_take (i := 0) (v := ?_) rfl (by kernel_rfl) (by kernel_rfl) (by kernel_rfl) (fun _ _ _ h => h) (Or.inl ⟨by rfl, ?_⟩) (by assumption) ?_; rotate_left; (intro wq hSw; (try dsimp only at hSw); go_simp; (try with_reducible rfl)); rotate_left; (try dsimp only [Act.put]); (try simp only [List.setIfInBounds_toArray, List.set_cons_zero, List.set_cons_succ]))
      (refine wpAnyH_take (i := 1) (v := ?_) rfl (by kernel_rfl) (by kernel_rfl) (by kernel_rfl) (fun _ _ _ h => h) (Or.inl ⟨by rfl, ?_⟩) (by assumption) ?_; rotate_left; (intro wq hSw; (try dsimp only at hSw); go_simp; (try with_reducible rfl)); rotate_left; (try dsimp only [Act.put]); (try simp only [List.setIfInBounds_toArray, List.set_cons_zero, List.set_cons_succ]))
      (refine wpAnyH_take (i := 2) (v := ?_) rfl (by kernel_rfl) (by kernel_rfl) (by kernel_rfl) (fun _ _ _ h => h) (Or.inl ⟨by rfl, ?_⟩) (by assumption) ?_; rotate_left; (intro wq hSw; (try dsimp only at hSw); go_simp; (try with_reducible rfl)); rotate_left; (try dsimp only [Act.put]); (try simp only [List.setIfInBounds_toArray, List.set_cons_zero, List.set_cons_succ]))
      refine wpAnyH_take (i := 3) (v := .agg (enc (get s)).toArray) rfl (by kernel_rfl) (by kernel_rfl) (by kernel_rfl) (fun _ _ _ h => h) (yieldsIf_load_mid (by rfl) _ _ rfl _ _ rfl (enc (get s)) _ hrng Tryz.underlying28 rfl (by rw [HLe.out]; kernel_rfl)) hS0 ?_
      (try dsimp only [Act.put]); (try simp only [List.setIfInBounds_toArray, List.set_cons_zero, List.set_cons_succ])
      refine wpAnyH_ready (rs := [4]) (by kernel_rfl) (by simp) ?_
      refine AllReadyH.cons rfl (fun K hK => ?_) AllReadyH.nil
      rw [if_pos (by rfl)]
      go_simp
      go_at_fn f; (refine Calls.mono (HC.out _ (HO.out.below (by (with_reducible (repeat' (first | exact Below.refl _ _ | assumption | apply bl_alloc | apply bl_drewN | apply bl_drew | refine bl_set ?_ ?_ _))) <;> (first | done | (simp; done) | (simp; omega) | omega))) _ HD.out) ?_); rintro e w1 ⟨b1, ⟨bs', v2, hp, rfl, hE⟩ | ⟨er', er2, hp, hner, rfl⟩⟩
      (exact absurd (HPP.out.symm.trans hp) (by simp)); (have HV := Lib.hid (show Rd w1 (.slice none 0 0) [] from .inl ⟨rfl, rfl⟩)); clear hp
      have hB1 : Below w.heap.size w w1 := bl_then (by (with_reducible (repeat' (first | exact Below.refl _ _ | assumption | apply bl_alloc | apply bl_drewN | apply bl_drew | refine bl_set ?_ ?_ _))) <;> (first | done | (simp; done) | (simp; omega) | omega)) b1
      have hcx := (bcell hB1).1
      go_wp2_with fail
      refine hK.out _ _ ⟨rangeAt_below HU.out (HTl.out) hB1, (hcx _ 0 hPl).trans hPb, (hcx _ 0 hXl).trans hX⟩ fun hS1 => ?_
      clear hS0 hcx hrng
      (try dsimp only [Act.put]); (try simp only [List.setIfInBounds_toArray, List.set_cons_zero, List.set_cons_succ])
      (refine wpAnyH_take (i := 5) (v := ?_) rfl (by kernel_rfl) (by kernel_rfl) (by kernel_rfl) (fun _ _ _ h => h) (Or.inl ⟨by rfl, ?_⟩) (by assumption) ?_; rotate_left; (intro wq hSw; (try dsimp only at hSw); go_simp; (try with_reducible rfl)); rotate_left; (try dsimp only [Act.put]); (try simp only [List.setIfInBounds_toArray, List.set_cons_zero, List.set_cons_succ]))
      (refine wpAnyH_take (i := 6) (v := ?_) rfl (by kernel_rfl) (by kernel_rfl) (by kernel_rfl) (fun _ _ _ h => h) (Or.inl ⟨by rfl, ?_⟩) (by assumption) ?_; rotate_left; (intro wq hSw; (try dsimp only at hSw); go_simp; (try with_reducible rfl)); rotate_left; (try dsimp only [Act.put]); (try simp only [List.setIfInBounds_toArray, List.set_cons_zero, List.set_cons_succ]))
      (refine wpAnyH_take (i := 7) (v := ?_) rfl (by kernel_rfl) (by kernel_rfl) (by kernel_rfl) (fun _ _ _ h => h) (Or.inl ⟨by rfl, ?_⟩) (by assumption) ?_; rotate_left; (intro wq hSw; (try dsimp only at hSw); go_simp; (try with_reducible rfl)); rotate_left; (try dsimp only [Act.put]); (try simp only [List.setIfInBounds_toArray, List.set_cons_zero, List.set_cons_succ]))
      (refine wpAnyH_take (i := 8) (v := ?_) rfl (by kernel_rfl) (by kernel_rfl) (by kernel_rfl) (fun _ _ _ h => h) (Or.inl ⟨by rfl, ?_⟩) (by assumption) ?_; rotate_left; (intro wq hSw; (try dsimp only at hSw); go_simp; (try with_reducible rfl)); rotate_left; (try dsimp only [Act.put]); (try simp only [List.setIfInBounds_toArray, List.set_cons_zero, List.set_cons_succ]))
      (refine wpAnyH_take (i := 9) (v := ?_) rfl (by kernel_rfl) (by kernel_rfl) (by kernel_rfl) (fun _ _ _ h => h) (Or.inl ⟨by rfl, ?_⟩) (by assumption) ?_; rotate_left; (intro wq hSw; (try dsimp only at hSw); go_simp; (try with_reducible rfl)); rotate_left; (try dsimp only [Act.put]); (try simp only [List.setIfInBounds_toArray, List.set_cons_zero, List.set_cons_succ]))
      refine wpAnyH_done (by kernel_rfl) ?_ _
      have oR := HR.out.trk hB1
      have HA1 := Lib.hid (HA.out.below hB1)
      have hR1s : w.heap.size ≤ w1.heap.size := hB1.size
      clear hS1 b1 h2 h3 hX hPb
      have r0 : w1.cell? ⟨R, 0, none⟩ = some v := oR.2.1 0
      have fR0 : w1.frozen? ⟨R, 0, none⟩ = false := oR.2.2 0
      have hR1 := oR.1
      go_upto_region 4 with (at_builtin; refine wp_append_at (v := v) rfl _ _ rfl rfl rfl HA1.out HV.out (by have := HAc.out; simp; omega) ?_; intro v3 w2 o2 g2 b2; have oB : Only (fun i => v.ownBlock = some i) w1 w2 := ⟨g2.os, g2.tape, g2.output, g2.size, fun i hi hp => g2.block i hi (fun e => hp e.symm)⟩; have oR2 := oR.only oB (fun e => (HAi.out _ e).1 rfl); have oW1 : Only (Wv R v) w w2 := (Only.ne_ _ hB1).then_ (oB.mono fun i _ h => (show Wv R v i from .inr h)) (fun i _ h => h); have HO2 : Hid (Own2 w v v3) := b2.imp id (fun h g hg => by rw [h] at hg; injection hg with hg; omega); have HR3 : Hid (∀ g, v3.ownBlock = some g → ¬ g = R) := (fun g hg => by rcases b2 with b2 | b2; (· exact (HAi.out g (by rw [← b2]; exact hg)).1); (· rw [b2] at hg; injection hg with hg; omega)); obtain ⟨A3, n3, c3, rfl⟩ := o2.isSlice; have HA3 := Lib.hid o2; clear g2 b2 oB o2 oR r0 fR0 hR1 hB1 HA1 HV hR1s; have hR2 := oR2.1; have fR2 : w2.frozen? ⟨R, 0, none⟩ = false := oR2.2.2 0; have r2 : w2.cell? ⟨R, 0, none⟩ = some v := oR2.2.1 0)
      have o1 : Only (· = R) w2 (w2.setCell ⟨R, 0, none⟩ (.slice A3 n3 c3)) := (Only.refl (· = R) _).setCell (p := ⟨R, 0, none⟩) (.inr rfl) _
      have oR3 := oR2.put 0 (.slice A3 n3 c3) (Nat.le_of_ble_eq_true rfl)
      have oW := oW1.then_ (o1.mono fun i _ e => (show Wv R v i from .inl e)) (fun i _ h => h)
      have HA2 := Lib.hid (HA3.out.only o1 HR3.out)
      clear o1 oR2 oW1 HA3 hR2 fR2 r2
      generalize w2.setCell ⟨R, 0, none⟩ (.slice A3 n3 c3) = w3 at *
      have r3 : w3.cell? ⟨R, 3, none⟩ = some (.int .i64 0) := oR3.2.1 3
      have fR3 : w3.frozen? ⟨R, 3, none⟩ = false := oR3.2.2 3
      have hR3 := oR3.1
      go_wp2
      refine bodyPost_ret (results_none rfl _ _ _) rfl ?_
      have o4 : Only (· = R) w3 (w3.setCell ⟨R, 3, none⟩ (.int .i64 er2)) := (Only.refl (· = R) _).setCell (p := ⟨R, 3, none⟩) (.inr rfl) _
      exact ⟨rfl, (oW.then_ (o4.mono fun i _ e => (show Wv R v i from .inl e)) fun i _ h => h), _, er2, oR3.put 3 _ (Nat.le_of_ble_eq_true rfl), .inr ⟨hner, er, rfl⟩⟩
    · skip
      have HPP := Lib.hid hpp
      clear hpp
      go_enter Tryz.func124, Tryz.ntmps124
      go_upto_region 2 with fail
      have hrng := fun (wq : World) (h : wq.rangeAt T o (enc (get s)) ∧ wq.cell? ⟨Pb, 0, none⟩ = some (.func (.func f) #[] cap) ∧ wq.cell? ⟨X, 0, none⟩ = some (.pointer (some ⟨T, o, none⟩))) => h.1
      refine wp_region_held_drew (S := fun wq => wq.rangeAt T o (enc (get s)) ∧ wq.cell? ⟨Pb, 0, none⟩ = some (.func (.func f) #[] cap) ∧ wq.cell? ⟨X, 0, none⟩ = some (.pointer (some ⟨T, o, none⟩))) rfl ⟨HU.out, hPb, hX⟩ fun hS0 => ?_
      (refine wpAnyH_take (i := 0) (v := ?_) rfl (by kernel_rfl) (by kernel_rfl) (by kernel_rfl) (fun _ _ _ h => h) (Or.inl ⟨by rfl, ?_⟩) (by assumption) ?_; rotate_left; (intro wq hSw; (try dsimp only at hSw); go_simp; (try with_reducible rfl)); rotate_left; (try dsimp only [Act.put]); (try simp only [List.setIfInBounds_toArray, List.set_cons_zero, List.set_cons_succ]))
      (refine wpAnyH_take (i := 1) (v := ?_) rfl (by kernel_rfl) (by kernel_rfl) (by kernel_rfl) (fun _ _ _ h => h) (Or.inl ⟨by rfl, ?_⟩) (by assumption) ?_; rotate_left; (intro wq hSw; (try dsimp only at hSw); go_simp; (try with_reducible rfl)); rotate_left; (try dsimp only [Act.put]); (try simp only [List.setIfInBounds_toArray, List.set_cons_zero, List.set_cons_succ]))
      (refine wpAnyH_take (i := 2) (v := ?_) rfl (by kernel_rfl) (by kernel_rfl) (by kernel_rfl) (fun _ _ _ h => h) (Or.inl ⟨by rfl, ?_⟩) (by assumption) ?_; rotate_left; (intro wq hSw; (try dsimp only at hSw); go_simp; (try with_reducible rfl)); rotate_left; (try dsimp only [Act.put]); (try simp only [List.setIfInBounds_toArray, List.set_cons_zero, List.set_cons_succ]))
      refine wpAnyH_take (i := 3) (v := .agg (enc (get s)).toArray) rfl (by kernel_rfl) (by kernel_rfl) (by kernel_rfl) (fun _ _ _ h => h) (yieldsIf_load_mid (by rfl) _ _ rfl _ _ rfl (enc (get s)) _ hrng Tryz.underlying28 rfl (by rw [HLe.out]; kernel_rfl)) hS0 ?_
      (try dsimp only [Act.put]); (try simp only [List.setIfInBounds_toArray, List.set_cons_zero, List.set_cons_succ])
      refine wpAnyH_ready (rs := [4]) (by kernel_rfl) (by simp) ?_
      refine AllReadyH.cons rfl (fun K hK => ?_) AllReadyH.nil
      rw [if_pos (by rfl)]
      go_simp
      go_at_fn f; (refine Calls.mono (HC.out _ (HO.out.below (by (with_reducible (repeat' (first | exact Below.refl _ _ | assumption | apply bl_alloc | apply bl_drewN | apply bl_drew | refine bl_set ?_ ?_ _))) <;> (first | done | (simp; done) | (simp; omega) | omega))) _ HD.out) ?_); rintro e w1 ⟨b1, ⟨bs', v2, hp, rfl, hE⟩ | ⟨er', er2, hp, hner, rfl⟩⟩
      rotate_left; (exact absurd (HPP.out.symm.trans hp) (by simp)); (obtain rfl : bs = bs' := (by have := HPP.out.symm.trans hp; simpa using this)); (have HV := Lib.hid hE.rd); clear hE hp
      have hB1 : Below w.heap.size w w1 := bl_then (by (with_reducible (repeat' (first | exact Below.refl _ _ | assumption | apply bl_alloc | apply bl_drewN | apply bl_drew | refine bl_set ?_ ?_ _))) <;> (first | done | (simp; done) | (simp; omega) | omega)) b1
      have hcx := (bcell hB1).1
      go_wp2_with fail
      refine hK.out _ _ ⟨rangeAt_below HU.out (HTl.out) hB1, (hcx _ 0 hPl).trans hPb, (hcx _ 0 hXl).trans hX⟩ fun hS1 => ?_
      clear hS0 hcx hrng
      (try dsimp only [Act.put]); (try simp only [List.setIfInBounds_toArray, List.set_cons_zero, List.set_cons_succ])
      (refine wpAnyH_take (i := 5) (v := ?_) rfl (by kernel_rfl) (by kernel_rfl) (by kernel_rfl) (fun _ _ _ h => h) (Or.inl ⟨by rfl, ?_⟩) (by assumption) ?_; rotate_left; (intro wq hSw; (try dsimp only at hSw); go_simp; (try with_reducible rfl)); rotate_left; (try dsimp only [Act.put]); (try simp only [List.setIfInBounds_toArray, List.set_cons_zero, List.set_cons_succ]))
      (refine wpAnyH_take (i := 6) (v := ?_) rfl (by kernel_rfl) (by kernel_rfl) (by kernel_rfl) (fun _ _ _ h => h) (Or.inl ⟨by rfl, ?_⟩) (by assumption) ?_; rotate_left; (intro wq hSw; (try dsimp only at hSw); go_simp; (try with_reducible rfl)); rotate_left; (try dsimp only [Act.put]); (try simp only [List.setIfInBounds_toArray, List.set_cons_zero, List.set_cons_succ]))
      (refine wpAnyH_take (i := 7) (v := ?_) rfl (by kernel_rfl) (by kernel_rfl) (by kernel_rfl) (fun _ _ _ h => h) (Or.inl ⟨by rfl, ?_⟩) (by assumption) ?_; rotate_left; (intro wq hSw; (try dsimp only at hSw); go_simp; (try with_reducible rfl)); rotate_left; (try dsimp only [Act.put]); (try simp only [List.setIfInBounds_toArray, List.set_cons_zero, List.set_cons_succ]))
      (refine wpAnyH_take (i := 8) (v := ?_) rfl (by kernel_rfl) (by kernel_rfl) (by kernel_rfl) (fun _ _ _ h => h) (Or.inl ⟨by rfl, ?_⟩) (by assumption) ?_; rotate_left; (intro wq hSw; (try dsimp only at hSw); go_simp; (try with_reducible rfl)); rotate_left; (try dsimp only [Act.put]); (try simp only [List.setIfInBounds_toArray, List.set_cons_zero, List.set_cons_succ]))
      (refine wpAnyH_take (i := 9) (v := ?_) rfl (by kernel_rfl) (by kernel_rfl) (by kernel_rfl) (fun _ _ _ h => h) (Or.inl ⟨by rfl, ?_⟩) (by assumption) ?_; rotate_left; (intro wq hSw; (try dsimp only at hSw); go_simp; (try with_reducible rfl)); rotate_left; (try dsimp only [Act.put]); (try simp only [List.setIfInBounds_toArray, List.set_cons_zero, List.set_cons_succ]))
      refine wpAnyH_done (by kernel_rfl) ?_ _
      have oR := HR.out.trk hB1
      have HA1 := Lib.hid (HA.out.below hB1)
      have hR1s : w.heap.size ≤ w1.heap.size := hB1.size
      clear hS1 b1 h2 h3 hX hPb
      have r0 : w1.cell? ⟨R, 0, none⟩ = some v := oR.2.1 0
      have fR0 : w1.frozen? ⟨R, 0, none⟩ = false := oR.2.2 0
      have hR1 := oR.1
      go_upto_region 4 with (at_builtin; refine wp_append_at (v := v) rfl _ _ rfl rfl rfl HA1.out HV.out (by have := HLn.out _ _ HD.out HPP.out; have := HAc.out; omega) ?_; intro v3 w2 o2 g2 b2; have oB : Only (fun i => v.ownBlock = some i) w1 w2 := ⟨g2.os, g2.tape, g2.output, g2.size, fun i hi hp => g2.block i hi (fun e => hp e.symm)⟩; have oR2 := oR.only oB (fun e => (HAi.out _ e).1 rfl); have oW1 : Only (Wv R v) w w2 := (Only.ne_ _ hB1).then_ (oB.mono fun i _ h => (show Wv R v i from .inr h)) (fun i _ h => h); have HO2 : Hid (Own2 w v v3) := b2.imp id (fun h g hg => by rw [h] at hg; injection hg with hg; omega); have HR3 : Hid (∀ g, v3.ownBlock = some g → ¬ g = R) := (fun g hg => by rcases b2 with b2 | b2; (· exact (HAi.out g (by rw [← b2]; exact hg)).1); (· rw [b2] at hg; injection hg with hg; omega)); obtain ⟨A3, n3, c3, rfl⟩ := o2.isSlice; have HA3 := Lib.hid o2; clear g2 b2 oB o2 oR r0 fR0 hR1 hB1 HA1 HV hR1s; have hR2 := oR2.1; have fR2 : w2.frozen? ⟨R, 0, none⟩ = false := oR2.2.2 0; have r2 : w2.cell? ⟨R, 0, none⟩ = some v := oR2.2.1 0)
      have o1 : Only (· = R) w2 (w2.setCell ⟨R, 0, none⟩ (.slice A3 n3 c3)) := (Only.refl (· = R) _).setCell (p := ⟨R, 0, none⟩) (.inr rfl) _
      have oR3 := oR2.put 0 (.slice A3 n3 c3) (Nat.le_of_ble_eq_true rfl)
      have oW := oW1.then_ (o1.mono fun i _ e => (show Wv R v i from .inl e)) (fun i _ h => h)
      have HA2 := Lib.hid (HA3.out.only o1 HR3.out)
      clear o1 oR2 oW1 HA3 hR2 fR2 r2
      generalize w2.setCell ⟨R, 0, none⟩ (.slice A3 n3 c3) = w3 at *
      have r3 : w3.cell? ⟨R, 3, none⟩ = some (.int .i64 0) := oR3.2.1 3
      have fR3 : w3.frozen? ⟨R, 3, none⟩ = false := oR3.2.2 3
      have hR3 := oR3.1
      go_wp2
      refine bodyPost_ret (results_none rfl _ _ _) rfl ?_
      have o4 : Only (· = R) w3 (w3.setCell ⟨R, 3, none⟩ (.int .i64 0)) := (Only.refl (· = R) _).setCell (p := ⟨R, 3, none⟩) (.inr rfl) _
      exact ⟨rfl, (oW.then_ (o4.mono fun i _ e => (show Wv R v i from .inl e)) fun i _ h => h), _, 0, oR3.put 3 _ (Nat.le_of_ble_eq_true rfl), .inl ⟨rfl, bs, rfl, HA2.out.only o4 HR3.out, HO2.out⟩⟩
end Go.Proofs.YtgmhapjidbdhnaaGreat
namespace Go.Proofs.YtgmhapjidbdhnaaGreat
open Go.RowKit
set_option maxRecDepth 100000 in
set_option maxHeartbeats 4000000 in
theorem ofSet_wr {σ α : Type} {Rep : World → σ → Prop} {R : Nat} {Q : Nat → Prop} {w0 : World} {lo T o d : Nat} {fv gv pv : Value} {q : α → Except Int (List UInt8)} {enc : α → List Value} {wf : α → Prop} {get : σ → α}
    (hW : RepW Rep R Q w0) (hF : FldGM Rep T o enc wf get) (hsh : OfShape 94 w0 lo fv gv pv T o) (hlo : ∀ i, lo ≤ i → i < w0.heap.size → ¬ Q i) (hg : PutterM (Only Q w0) pv q enc wf d)
    (hle : ∀ y, wf y → (enc y).length = 14) :
    ∃ cap, fv = .func (.func 94) #[] cap ∧ WrPart Rep R Q w0 94 cap (fun s => q (get s)) d := by
  obtain ⟨X, G, Pb, rfl, a1, a2, a3, a4, a5, a6, c1, c2, c3⟩ := hsh.box
  refine ⟨_, rfl, fun args w => by kernel_rfl, fun w s bs hRep hq => ?_, fun w s v e ho hRep he hR => ?_, fun w s v acc ho hRep hR hA hAi hAc => ?_⟩
  · exact hg.1 _ bs (hF.has w s hRep).2 hq
  · have h3 : w.cell? ⟨R, 3, none⟩ = some (.int .i64 e) := hR.2.1 3
    have hRl := hR.1
    have he2 : ¬ e = 0 := he
    have HR := Lib.hid hR
    clear hR hRep ho he hlo hF hW hg hsh c1 c2 c3
    show Calls Tryz.prog 94 #[.pointer (some ⟨R, 0, none⟩), .pointer (some ⟨Pb, 0, none⟩), .pointer (some ⟨X, 0, none⟩), .pointer (some ⟨G, 0, none⟩)] w _
    go_enter Tryz.func94, Tryz.ntmps94
    go_wp2
    refine bodyPost_ret (results_none rfl _ _ _) rfl ?_
    exact ⟨rfl, Only.refl _ _, HR.out⟩
  · have hX : w.cell? ⟨X, 0, none⟩ = some (.pointer (some ⟨T, o, none⟩)) := (ho.cell (a := ⟨X, 0, none⟩) a2 (hlo _ a1 a2)).trans c1
    have hPb : w.cell? ⟨Pb, 0, none⟩ = some pv := (ho.cell (a := ⟨Pb, 0, none⟩) a6 (hlo _ a5 a6)).trans c3
    have hXl : X < w.heap.size := Nat.lt_of_lt_of_le a2 ho.size
    have hPl : Pb < w.heap.size := Nat.lt_of_lt_of_le a6 ho.size
    have HTl := Lib.hid (hF.lt _ _ hRep)
    obtain ⟨hu, hD⟩ := hF.has w s hRep
    have h2 : w.cell? ⟨R, 2, none⟩ = some (.bool false) := hR.2.1 2
    have h3 : w.cell? ⟨R, 3, none⟩ = some (.int .i64 0) := hR.2.1 3
    have hRl := hR.1
    obtain ⟨hln, f, cap, rfl, eg, hcall⟩ := hg
    have eg2 : ∀ (args : Array Value) (wx : World), (callFunc f args).run Tryz.prog wx = .ok (.enter f args) wx := eg
    have HAc := Lib.hid hAc; have HA := Lib.hid hA; have HAi := Lib.hid hAi; have HLn := Lib.hid hln; have HU := Lib.hid hu; have HLe := Lib.hid (hle (get s) hD)
    have HC := Lib.hid hcall; have HO := Lib.hid ho; have HW := Lib.hid hW; have HF := Lib.hid hF; have HRep := Lib.hid hRep
    have HR := Lib.hid hR; have HD := Lib.hid hD
    clear hA hAc hAi hln hcall ho hW hF hRep hR hD eg hlo hsh c1 c2 c3 a1 a2 a3 a4 a5 a6 hu hle
    show Calls Tryz.prog 94 #[.pointer (some ⟨R, 0, none⟩), .pointer (some ⟨Pb, 0, none⟩), .pointer (some ⟨X, 0, none⟩), .pointer (some ⟨G, 0, none⟩)] w _
    rcases hpp : q (get s) with er | bs
    · skip
      have HPP := Lib.hid hpp
      clear hpp
      go_enter Tryz.func94, Tryz.ntmps94
      go_upto_region 2 with fail
      have hrng := fun (wq : World) (h : wq.rangeAt T o (enc (get s)) ∧ wq.cell? ⟨Pb, 0, none⟩ = some (.func (.func f) #[] cap) ∧ wq.cell? ⟨X, 0, none⟩ = some (.pointer (some ⟨T, o, none⟩))) => h.1
      refine wp_region_held_drew (S := fun wq => wq.rangeAt T o (enc (get s)) ∧ wq.cell? ⟨Pb, 0, none⟩ = some (.func (.func f) #[] cap) ∧ wq.cell? ⟨X, 0, none⟩ = some (.pointer (some ⟨T, o, none⟩))) rfl ⟨HU.out, hPb, hX⟩ fun hS0 => ?_
      (refine wpAnyH_take (i := 0) (v := ?_) rfl (by kernel_rfl) (by kernel_rfl) (by kernel_rfl) (fun _ _ _ h => h) (Or.inl ⟨by rfl, ?_⟩) (by assumption) ?_; rotate_left; (intro wq hSw; (try dsimp only at hSw); go_simp; (try with_reducible rfl)); rotate_left; (try dsimp only [Act.put]); (try simp only [List.setIfInBounds_toArray, List.set_cons_zero, List.set_cons_succ]))
      (refine wpAnyH_take (i := 1) (v := ?_) rfl (by kernel_rfl) (by kernel_rfl) (by kernel_rfl) (fun _ _ _ h => h) (Or.inl ⟨by rfl, ?_⟩) (by assumption) ?_; rotate_left; (intro wq hSw; (try dsimp only at hSw); go_simp; (try with_reducible rfl)); rotate_left; (try dsimp only [Act.put]); (try simp only [List.setIfInBounds_toArray, List.set_cons_zero, List.set_cons_succ]))
      (refine wpAnyH_take (i := 2) (v := ?_) rfl (by kernel_rfl) (by kernel_rfl) (by kernel_rfl) (fun _ _ _ h => h) (Or.inl ⟨by rfl, ?_⟩) (by assumption) ?_; rotate_left; (intro wq hSw; (try dsimp only at hSw); go_simp; (try with_reducible rfl)); rotate_left; (try dsimp only [Act.put]); (try simp only [List.setIfInBounds_toArray, List.set_cons_zero, List.set_cons_succ]))
      refine wpAnyH_take (i := 3) (v := .agg (enc (get s)).toArray) rfl (by kernel_rfl) (by kernel_rfl) (by kernel_rfl) (fun _ _ _ h => h) (yieldsIf_load_mid (by rfl) _ _ rfl _ _ rfl (enc (get s)) _ hrng Tryz.underlying30 rfl (by rw [HLe.out]; kernel_rfl)) hS0 ?_
      (try dsimp only [Act.put]); (try simp only [List.setIfInBounds_toArray, List.set_cons_zero, List.set_cons_succ])
      refine wpAnyH_ready (rs := [4]) (by kernel_rfl) (by simp) ?_
      refine AllReadyH.cons rfl (fun K hK => ?_) AllReadyH.nil
      rw [if_pos (by rfl)]
      go_simp
      go_at_fn f; (refine Calls.mono (HC.out _ (HO.out.below (by (with_reducible (repeat' (first | exact Below.refl _ _ | assumption | apply bl_alloc | apply bl_drewN | apply bl_drew | refine bl_set ?_ ?_ _))) <;> (first | done | (simp; done) | (simp; omega) | omega))) _ HD.out) ?_); rintro e w1 ⟨b1, ⟨bs', v2, hp, rfl, hE⟩ | ⟨er', er2, hp, hner, rfl⟩⟩
      (exact absurd (HPP.out.symm.trans hp) (by simp)); (have HV := Lib.hid (show Rd w1 (.slice none 0 0) [] from .inl ⟨rfl, rfl⟩)); clear hp
      have hB1 : Below w.heap.size w w1 := bl_then (by (with_reducible (repeat' (first | exact Below.refl _ _ | assumption | apply bl_alloc | apply bl_drewN | apply bl_drew | refine bl_set ?_ ?_ _))) <;> (first | done | (simp; done) | (simp; omega) | omega)) b1
      have hcx := (bcell hB1).1
      go_wp2_with fail
      refine hK.out _ _ ⟨rangeAt_below HU.out (HTl.out) hB1, (hcx _ 0 hPl).trans hPb, (hcx _ 0 hXl).trans hX⟩ fun hS1 => ?_
      clear hS0 hcx hrng
      (try dsimp only [Act.put]); (try simp only [List.setIfInBounds_toArray, List.set_cons_zero, List.set_cons_succ])
      (refine wpAnyH_take (i := 5) (v := ?_) rfl (by kernel_rfl) (by kernel_rfl) (by kernel_rfl) (fun _ _ _ h => h) (Or.inl ⟨by rfl, ?_⟩) (by assumption) ?_; rotate_left; (intro wq hSw; (try dsimp only at hSw); go_simp; (try with_reducible rfl)); rotate_left; (try dsimp only [Act.put]); (try simp only [List.setIfInBounds_toArray, List.set_cons_zero, List.set_cons_succ]))
      (refine wpAnyH_take (i := 6) (v := ?_) rfl (by kernel_rfl) (by kernel_rfl) (by kernel_rfl) (fun _ _ _ h => h) (Or.inl ⟨by rfl, ?_⟩) (by assumption) ?_; rotate_left; (intro wq hSw; (try dsimp only at hSw); go_simp; (try with_reducible rfl)); rotate_left; (try dsimp only [Act.put]); (try simp only [List.setIfInBounds_toArray, List.set_cons_zero, List.set_cons_succ]))
      (refine wpAnyH_take (i := 7) (v := ?_) rfl (by kernel_rfl) (by kernel_rfl) (by kernel_rfl) (fun _ _ _ h => h) (Or.inl ⟨by rfl, ?_⟩) (by assumption) ?_; rotate_left; (intro wq hSw; (try dsimp only at hSw); go_simp; (try with_reducible rfl)); rotate_left; (try dsimp only [Act.put]); (try simp only [List.setIfInBounds_toArray, List.set_cons_zero, List.set_cons_succ]))
      (refine wpAnyH_take (i := 8) (v := ?_) rfl (by kernel_rfl) (by kernel_rfl) (by kernel_rfl) (fun _ _ _ h => h) (Or.inl ⟨by rfl, ?_⟩) (by assumption) ?_; rotate_left; (intro wq hSw; (try dsimp only at hSw); go_simp; (try with_reducible rfl)); rotate_left; (try dsimp only [Act.put]); (try simp only [List.setIfInBounds_toArray, List.set_cons_zero, List.set_cons_succ]))
      (refine wpAnyH_take (i := 9) (v := ?_) rfl (by kernel_rfl) (by kernel_rfl) (by kernel_rfl) (fun _ _ _ h => h) (Or.inl ⟨by rfl, ?_⟩) (by assumption) ?_; rotate_left; (intro wq hSw; (try dsimp only at hSw); go_simp; (try with_reducible rfl)); rotate_left; (try dsimp only [Act.put]); (try simp only [List.setIfInBounds_toArray, List.set_cons_zero, List.set_cons_succ]))
      refine wpAnyH_done (by kernel_rfl) ?_ _
      have oR := HR.out.trk hB1
      have HA1 := Lib.hid (HA.out.below hB1)
      have hR1s : w.heap.size ≤ w1.heap.size := hB1.size
      clear hS1 b1 h2 h3 hX hPb
      have r0 : w1.cell? ⟨R, 0, none⟩ = some v := oR.2.1 0
      have fR0 : w1.frozen? ⟨R, 0, none⟩ = false := oR.2.2 0
      have hR1 := oR.1
      go_upto_region 4 with (at_builtin; refine wp_append_at (v := v) rfl _ _ rfl rfl rfl HA1.out HV.out (by have := HAc.out; simp; omega) ?_; intro v3 w2 o2 g2 b2; have oB : Only (fun i => v.ownBlock = some i) w1 w2 := ⟨g2.os, g2.tape, g2.output, g2.size, fun i hi hp => g2.block i hi (fun e => hp e.symm)⟩; have oR2 := oR.only oB (fun e => (HAi.out _ e).1 rfl); have oW1 : Only (Wv R v) w w2 := (Only.ne_ _ hB1).then_ (oB.mono fun i _ h => (show Wv R v i from .inr h)) (fun i _ h => h); have HO2 : Hid (Own2 w v v3) := b2.imp id (fun h g hg => by rw [h] at hg; injection hg with hg; omega); have HR3 : Hid (∀ g, v3.ownBlock = some g → ¬ g = R) := (fun g hg => by rcases b2 with b2 | b2; (· exact (HAi.out g (by rw [← b2]; exact hg)).1); (· rw [b2] at hg; injection hg with hg; omega)); obtain ⟨A3, n3, c3, rfl⟩ := o2.isSlice; have HA3 := Lib.hid o2; clear g2 b2 oB o2 oR r0 fR0 hR1 hB1 HA1 HV hR1s; have hR2 := oR2.1; have fR2 : w2.frozen? ⟨R, 0, none⟩ = false := oR2.2.2 0; have r2 : w2.cell? ⟨R, 0, none⟩ = some v := oR2.2.1 0)
      have o1 : Only (· = R) w2 (w2.setCell ⟨R, 0, none⟩ (.slice A3 n3 c3)) := (Only.refl (· = R) _).setCell (p := ⟨R, 0, none⟩) (.inr rfl) _
      have oR3 := oR2.put 0 (.slice A3 n3 c3) (Nat.le_of_ble_eq_true rfl)
      have oW := oW1.then_ (o1.mono fun i _ e => (show Wv R v i from .inl e)) (fun i _ h => h)
      have HA2 := Lib.hid (HA3.out.only o1 HR3.out)
      clear o1 oR2 oW1 HA3 hR2 fR2 r2
      generalize w2.setCell ⟨R, 0, none⟩ (.slice A3 n3 c3) = w3 at *
      have r3 : w3.cell? ⟨R, 3, none⟩ = some (.int .i64 0) := oR3.2.1 3
      have fR3 : w3.frozen? ⟨R, 3, none⟩ = false := oR3.2.2 3
      have hR3 := oR3.1
      go_wp2
      refine bodyPost_ret (results_none rfl _ _ _) rfl ?_
      have o4 : Only (· = R) w3 (w3.setCell ⟨R, 3, none⟩ (.int .i64 er2)) := (Only.refl (· = R) _).setCell (p := ⟨R, 3, none⟩) (.inr rfl) _
      exact ⟨rfl, (oW.then_ (o4.mono fun i _ e => (show Wv R v i from .inl e)) fun i _ h => h), _, er2, oR3.put 3 _ (Nat.le_of_ble_eq_true rfl), .inr ⟨hner, er, rfl⟩⟩
    · skip
      have HPP := Lib.hid hpp
      clear hpp
      go_enter Tryz.func94, Tryz.ntmps94
      go_upto_region 2 with fail
      have hrng := fun (wq : World) (h : wq.rangeAt T o (enc (get s)) ∧ wq.cell? ⟨Pb, 0, none⟩ = some (.func (.func f) #[] cap) ∧ wq.cell? ⟨X, 0, none⟩ = some (.pointer (some ⟨T, o, none⟩))) => h.1
      refine wp_region_held_drew (S := fun wq => wq.rangeAt T o (enc (get s)) ∧ wq.cell? ⟨Pb, 0, none⟩ = some (.func (.func f) #[] cap) ∧ wq.cell? ⟨X, 0, none⟩ = some (.pointer (some ⟨T, o, none⟩))) rfl ⟨HU.out, hPb, hX⟩ fun hS0 => ?_
      (refine wpAnyH_take (i := 0) (v := ?_) rfl (by kernel_rfl) (by kernel_rfl) (by kernel_rfl) (fun _ _ _ h => h) (Or.inl ⟨by rfl, ?_⟩) (by assumption) ?_; rotate_left; (intro wq hSw; (try dsimp only at hSw); go_simp; (try with_reducible rfl)); rotate_left; (try dsimp only [Act.put]); (try simp only [List.setIfInBounds_toArray, List.set_cons_zero, List.set_cons_succ]))
      (refine wpAnyH_take (i := 1) (v := ?_) rfl (by kernel_rfl) (by kernel_rfl) (by kernel_rfl) (fun _ _ _ h => h) (Or.inl ⟨by rfl, ?_⟩) (by assumption) ?_; rotate_left; (intro wq hSw; (try dsimp only at hSw); go_simp; (try with_reducible rfl)); rotate_left; (try dsimp only [Act.put]); (try simp only [List.setIfInBounds_toArray, List.set_cons_zero, List.set_cons_succ]))
      (refine wpAnyH_take (i := 2) (v := ?_) rfl (by kernel_rfl) (by kernel_rfl) (by kernel_rfl) (fun _ _ _ h => h) (Or.inl ⟨by rfl, ?_⟩) (by assumption) ?_; rotate_left; (intro wq hSw; (try dsimp only at hSw); go_simp; (try with_reducible rfl)); rotate_left; (try dsimp only [Act.put]); (try simp only [List.setIfInBounds_toArray, List.set_cons_zero, List.set_cons_succ]))
      refine wpAnyH_take (i := 3) (v := .agg (enc (get s)).toArray) rfl (by kernel_rfl) (by kernel_rfl) (by kernel_rfl) (fun _ _ _ h => h) (yieldsIf_load_mid (by rfl) _ _ rfl _ _ rfl (enc (get s)) _ hrng Tryz.underlying30 rfl (by rw [HLe.out]; kernel_rfl)) hS0 ?_
      (try dsimp only [Act.put]); (try simp only [List.setIfInBounds_toArray, List.set_cons_zero, List.set_cons_succ])
      refine wpAnyH_ready (rs := [4]) (by kernel_rfl) (by simp) ?_
      refine AllReadyH.cons rfl (fun K hK => ?_) AllReadyH.nil
      rw [if_pos (by rfl)]
      go_simp
      go_at_fn f; (refine Calls.mono (HC.out _ (HO.out.below (by (with_reducible (repeat' (first | exact Below.refl _ _ | assumption | apply bl_alloc | apply bl_drewN | apply bl_drew | refine bl_set ?_ ?_ _))) <;> (first | done | (simp; done) | (simp; omega) | omega))) _ HD.out) ?_); rintro e w1 ⟨b1, ⟨bs', v2, hp, rfl, hE⟩ | ⟨er', er2, hp, hner, rfl⟩⟩
      rotate_left; (exact absurd (HPP.out.symm.trans hp) (by simp)); (obtain rfl : bs = bs' := (by have := HPP.out.symm.trans hp; simpa using this)); (have HV := Lib.hid hE.rd); clear hE hp
      have hB1 : Below w.heap.size w w1 := bl_then (by (with_reducible (repeat' (first | exact Below.refl _ _ | assumption | apply bl_alloc | apply bl_drewN | apply bl_drew | refine bl_set ?_ ?_ _))) <;> (first | done | (simp; done) | (simp; omega) | omega)) b1
      have hcx := (bcell hB1).1
      go_wp2_with fail
      refine hK.out _ _ ⟨rangeAt_below HU.out (HTl.out) hB1, (hcx _ 0 hPl).trans hPb, (hcx _ 0 hXl).trans hX⟩ fun hS1 => ?_
      clear hS0 hcx hrng
      (try dsimp only [Act.put]); (try simp only [List.setIfInBounds_toArray, List.set_cons_zero, List.set_cons_succ])
      (refine wpAnyH_take (i := 5) (v := ?_) rfl (by kernel_rfl) (by kernel_rfl) (by kernel_rfl) (fun _ _ _ h => h) (Or.inl ⟨by rfl, ?_⟩) (by assumption) ?_; rotate_left; (intro wq hSw; (try dsimp only at hSw); go_simp; (try with_reducible rfl)); rotate_left; (try dsimp only [Act.put]); (try simp only [List.setIfInBounds_toArray, List.set_cons_zero, List.set_cons_succ]))
      (refine wpAnyH_take (i := 6) (v := ?_) rfl (by kernel_rfl) (by kernel_rfl) (by kernel_rfl) (fun _ _ _ h => h) (Or.inl ⟨by rfl, ?_⟩) (by assumption) ?_; rotate_left; (intro wq hSw; (try dsimp only at hSw); go_simp; (try with_reducible rfl)); rotate_left; (try dsimp only [Act.put]); (try simp only [List.setIfInBounds_toArray, List.set_cons_zero, List.set_cons_succ]))
      (refine wpAnyH_take (i := 7) (v := ?_) rfl (by kernel_rfl) (by kernel_rfl) (by kernel_rfl) (fun _ _ _ h => h) (Or.inl ⟨by rfl, ?_⟩) (by assumption) ?_; rotate_left; (intro wq hSw; (try dsimp only at hSw); go_simp; (try with_reducible rfl)); rotate_left; (try dsimp only [Act.put]); (try simp only [List.setIfInBounds_toArray, List.set_cons_zero, List.set_cons_succ]))
      (refine wpAnyH_take (i := 8) (v := ?_) rfl (by kernel_rfl) (by kernel_rfl) (by kernel_rfl) (fun _ _ _ h => h) (Or.inl ⟨by rfl, ?_⟩) (by assumption) ?_; rotate_left; (intro wq hSw; (try dsimp only at hSw); go_simp; (try with_reducible rfl)); rotate_left; (try dsimp only [Act.put]); (try simp only [List.setIfInBounds_toArray, List.set_cons_zero, List.set_cons_succ]))
      (refine wpAnyH_take (i := 9) (v := ?_) rfl (by kernel_rfl) (by kernel_rfl) (by kernel_rfl) (fun _ _ _ h => h) (Or.inl ⟨by rfl, ?_⟩) (by assumption) ?_; rotate_left; (intro wq hSw; (try dsimp only at hSw); go_simp; (try with_reducible rfl)); rotate_left; (try dsimp only [Act.put]); (try simp only [List.setIfInBounds_toArray, List.set_cons_zero, List.set_cons_succ]))
      refine wpAnyH_done (by kernel_rfl) ?_ _
      have oR := HR.out.trk hB1
      have HA1 := Lib.hid (HA.out.below hB1)
      have hR1s : w.heap.size ≤ w1.heap.size := hB1.size
      clear hS1 b1 h2 h3 hX hPb
      have r0 : w1.cell? ⟨R, 0, none⟩ = some v := oR.2.1 0
      have fR0 : w1.frozen? ⟨R, 0, none⟩ = false := oR.2.2 0
      have hR1 := oR.1
      go_upto_region 4 with (at_builtin; refine wp_append_at (v := v) rfl _ _ rfl rfl rfl HA1.out HV.out (by have := HLn.out _ _ HD.out HPP.out; have := HAc.out; omega) ?_; intro v3 w2 o2 g2 b2; have oB : Only (fun i => v.ownBlock = some i) w1 w2 := ⟨g2.os, g2.tape, g2.output, g2.size, fun i hi hp => g2.block i hi (fun e => hp e.symm)⟩; have oR2 := oR.only oB (fun e => (HAi.out _ e).1 rfl); have oW1 : Only (Wv R v) w w2 := (Only.ne_ _ hB1).then_ (oB.mono fun i _ h => (show Wv R v i from .inr h)) (fun i _ h => h); have HO2 : Hid (Own2 w v v3) := b2.imp id (fun h g hg => by rw [h] at hg; injection hg with hg; omega); have HR3 : Hid (∀ g, v3.ownBlock = some g → ¬ g = R) := (fun g hg => by rcases b2 with b2 | b2; (· exact (HAi.out g (by rw [← b2]; exact hg)).1); (· rw [b2] at hg; injection hg with hg; omega)); obtain ⟨A3, n3, c3, rfl⟩ := o2.isSlice; have HA3 := Lib.hid o2; clear g2 b2 oB o2 oR r0 fR0 hR1 hB1 HA1 HV hR1s; have hR2 := oR2.1; have fR2 : w2.frozen? ⟨R, 0, none⟩ = false := oR2.2.2 0; have r2 : w2.cell? ⟨R, 0, none⟩ = some v := oR2.2.1 0)
      have o1 : Only (· = R) w2 (w2.setCell ⟨R, 0, none⟩ (.slice A3 n3 c3)) := (Only.refl (· = R) _).setCell (p := ⟨R, 0, none⟩) (.inr rfl) _
      have oR3 := oR2.put 0 (.slice A3 n3 c3) (Nat.le_of_ble_eq_true rfl)
      have oW := oW1.then_ (o1.mono fun i _ e => (show Wv R v i from .inl e)) (fun i _ h => h)
      have HA2 := Lib.hid (HA3.out.only o1 HR3.out)
      clear o1 oR2 oW1 HA3 hR2 fR2 r2
      generalize w2.setCell ⟨R, 0, none⟩ (.slice A3 n3 c3) = w3 at *
      have r3 : w3.cell? ⟨R, 3, none⟩ = some (.int .i64 0) := oR3.2.1 3
      have fR3 : w3.frozen? ⟨R, 3, none⟩ = false := oR3.2.2 3
      have hR3 := oR3.1
      go_wp2
      refine bodyPost_ret (results_none rfl _ _ _) rfl ?_
      have o4 : Only (· = R) w3 (w3.setCell ⟨R, 3, none⟩ (.int .i64 0)) := (Only.refl (· = R) _).setCell (p := ⟨R, 3, none⟩) (.inr rfl) _
      exact ⟨rfl, (oW.then_ (o4.mono fun i _ e => (show Wv R v i from .inl e)) fun i _ h => h), _, 0, oR3.put 3 _ (Nat.le_of_ble_eq_true rfl), .inl ⟨rfl, bs, rfl, HA2.out.only o4 HR3.out, HO2.out⟩⟩
end Go.Proofs.YtgmhapjidbdhnaaGreat
namespace Go.Proofs.YtgmhapjidbdhnaaGreat
open Go.RowKit
set_option maxRecDepth 100000 in
set_option maxHeartbeats 4000000 in
theorem ofV_wr {σ α : Type} {Rep : World → σ → Prop} {R : Nat} {Q : Nat → Prop} {w0 : World} {lo T o d : Nat} {fv gv pv : Value} {q : α → Except Int (List UInt8)} {enc : α → List Value} {wf : α → Prop} {get : σ → α}
    (hW : RepW Rep R Q w0) (hF : FldGM Rep T o enc wf get) (hsh : OfShape 109 w0 lo fv gv pv T o) (hlo : ∀ i, lo ≤ i → i < w0.heap.size → ¬ Q i) (hg : PutterM (Only Q w0) pv q enc wf d)
    (hle : ∀ y, wf y → (enc y).length = 8) :
    ∃ cap, fv = .func (.func 109) #[] cap ∧ WrPart Rep R Q w0 109 cap (fun s => q (get s)) d := by
  obtain ⟨X, G, Pb, rfl, a1, a2, a3, a4, a5, a6, c1, c2, c3⟩ := hsh.box
  refine ⟨_, rfl, fun args w => by kernel_rfl, fun w s bs hRep hq => ?_, fun w s v e ho hRep he hR => ?_, fun w s v acc ho hRep hR hA hAi hAc => ?_⟩
  · exact hg.1 _ bs (hF.has w s hRep).2 hq
  · have h3 : w.cell? ⟨R, 3, none⟩ = some (.int .i64 e) := hR.2.1 3
    have hRl := hR.1
    have he2 : ¬ e = 0 := he
    have HR := Lib.hid hR
    clear hR hRep ho he hlo hF hW hg hsh c1 c2 c3
    show Calls Tryz.prog 109 #[.pointer (some ⟨R, 0, none⟩), .pointer (some ⟨Pb, 0, none⟩), .pointer (some ⟨X, 0, none⟩), .pointer (some ⟨G, 0, none⟩)] w _
    go_enter Tryz.func109, Tryz.ntmps109
    go_wp2
    refine bodyPost_ret (results_none rfl _ _ _) rfl ?_
    exact ⟨rfl, Only.refl _ _, HR.out⟩
  · have hX : w.cell? ⟨X, 0, none⟩ = some (.pointer (some ⟨T, o, none⟩)) := (ho.cell (a := ⟨X, 0, none⟩) a2 (hlo _ a1 a2)).trans c1
    have hPb : w.cell? ⟨Pb, 0, none⟩ = some pv := (ho.cell (a := ⟨Pb, 0, none⟩) a6 (hlo _ a5 a6)).trans c3
    have hXl : X < w.heap.size := Nat.lt_of_lt_of_le a2 ho.size
    have hPl : Pb < w.heap.size := Nat.lt_of_lt_of_le a6 ho.size
    have HTl := Lib.hid (hF.lt _ _ hRep)
    obtain ⟨hu, hD⟩ := hF.has w s hRep
    have h2 : w.cell? ⟨R, 2, none⟩ = some (.bool false) := hR.2.1 2
    have h3 : w.cell? ⟨R, 3, none⟩ = some (.int .i64 0) := hR.2.1 3
    have hRl := hR.1
    obtain ⟨hln, f, cap, rfl, eg, hcall⟩ := hg
    have eg2 : ∀ (args : Array Value) (wx : World), (callFunc f args).run Tryz.prog wx = .ok (.enter f args) wx := eg
    have HAc := Lib.hid hAc; have HA := Lib.hid hA; have HAi := Lib.hid hAi; have HLn := Lib.hid hln; have HU := Lib.hid hu; have HLe := Lib.hid (hle (get s) hD)
    have HC := Lib.hid hcall; have HO := Lib.hid ho; have HW := Lib.hid hW; have HF := Lib.hid hF; have HRep := Lib.hid hRep
    have HR := Lib.hid hR; have HD := Lib.hid hD
    clear hA hAc hAi hln hcall ho hW hF hRep hR hD eg hlo hsh c1 c2 c3 a1 a2 a3 a4 a5 a6 hu hle
    show Calls Tryz.prog 109 #[.pointer (some ⟨R, 0, none⟩), .pointer (some ⟨Pb, 0, none⟩), .pointer (some ⟨X, 0, none⟩), .pointer (some ⟨G, 0, none⟩)] w _
    rcases hpp : q (get s) with er | bs
    · skip
      have HPP := Lib.hid hpp
      clear hpp
      go_enter Tryz.func109, Tryz.ntmps109
      go_upto_region 2 with fail
      have hrng := fun (wq : World) (h : wq.rangeAt T o (enc (get s)) ∧ wq.cell? ⟨Pb, 0, none⟩ = some (.func (.func f) #[] cap) ∧ wq.cell? ⟨X, 0, none⟩ = some (.pointer (some ⟨T, o, none⟩))) => h.1
      refine wp_region_held_drew (S := fun wq => wq.rangeAt T o (enc (get s)) ∧ wq.cell? ⟨Pb, 0, none⟩ = some (.func (.func f) #[] cap) ∧ wq.cell? ⟨X, 0, none⟩ = some (.pointer (some ⟨T, o, none⟩))) rfl ⟨HU.out, hPb, hX⟩ fun hS0 => ?_
      (refine wpAnyH_take (i := 0) (v := ?_) rfl (by kernel_rfl) (by kernel_rfl) (by kernel_rfl) (fun _ _ _ h => h) (Or.inl ⟨by rfl, ?_⟩) (by assumption) ?_; rotate_left; (intro wq hSw; (try dsimp only at hSw); go_simp; (try with_reducible rfl)); rotate_left; (try dsimp only [Act.put]); (try simp only [List.setIfInBounds_toArray, List.set_cons_zero, List.set_cons_succ]))
      (refine wpAnyH_take (i := 1) (v := ?_) rfl (by kernel_rfl) (by kernel_rfl) (by kernel_rfl) (fun _ _ _ h => h) (Or.inl ⟨by rfl, ?_⟩) (by assumption) ?_; rotate_left; (intro wq hSw; (try dsimp only at hSw); go_simp; (try with_reducible rfl)); rotate_left; (try dsimp only [Act.put]); (try simp only [List.setIfInBounds_toArray, List.set_cons_zero, List.set_cons_succ]))
      (refine wpAnyH_take (i := 2) (v := ?_) rfl (by kernel_rfl) (by kernel_rfl) (by kernel_rfl) (fun _ _ _ h => h) (Or.inl ⟨by rfl, ?_⟩) (by assumption) ?_; rotate_left; (intro wq hSw; (try dsimp only at hSw); go_simp; (try with_reducible rfl)); rotate_left; (try dsimp only [Act.put]); (try simp only [List.setIfInBounds_toArray, List.set_cons_zero, List.set_cons_succ]))
      refine wpAnyH_take (i := 3) (v := .agg (enc (get s)).toArray) rfl (by kernel_rfl) (by kernel_rfl) (by kernel_rfl) (fun _ _ _ h => h) (yieldsIf_load_mid (by rfl) _ _ rfl _ _ rfl (enc (get s)) _ hrng Tryz.underlying31 rfl (by rw [HLe.out]; kernel_rfl)) hS0 ?_
      (try dsimp only [Act.put]); (try simp only [List.setIfInBounds_toArray, List.set_cons_zero, List.set_cons_succ])
      refine wpAnyH_ready (rs := [4]) (by kernel_rfl) (by simp) ?_
      refine AllReadyH.cons rfl (fun K hK => ?_) AllReadyH.nil
      rw [if_pos (by rfl)]
      go_simp
      go_at_fn f; (refine Calls.mono (HC.out _ (HO.out.below (by (with_reducible (repeat' (first | exact Below.refl _ _ | assumption | apply bl_alloc | apply bl_drewN | apply bl_drew | refine bl_set ?_ ?_ _))) <;> (first | done | (simp; done) | (simp; omega) | omega))) _ HD.out) ?_); rintro e w1 ⟨b1, ⟨bs', v2, hp, rfl, hE⟩ | ⟨er', er2, hp, hner, rfl⟩⟩
      (exact absurd (HPP.out.symm.trans hp) (by simp)); (have HV := Lib.hid (show Rd w1 (.slice none 0 0) [] from .inl ⟨rfl, rfl⟩)); clear hp
      have hB1 : Below w.heap.size w w1 := bl_then (by (with_reducible (repeat' (first | exact Below.refl _ _ | assumption | apply bl_alloc | apply bl_drewN | apply bl_drew | refine bl_set ?_ ?_ _))) <;> (first | done | (simp; done) | (simp; omega) | omega)) b1
      have hcx := (bcell hB1).1
      go_wp2_with fail
      refine hK.out _ _ ⟨rangeAt_below HU.out (HTl.out) hB1, (hcx _ 0 hPl).trans hPb, (hcx _ 0 hXl).trans hX⟩ fun hS1 => ?_
      clear hS0 hcx hrng
      (try dsimp only [Act.put]); (try simp only [List.setIfInBounds_toArray, List.set_cons_zero, List.set_cons_succ])
      (refine wpAnyH_take (i := 5) (v := ?_) rfl (by kernel_rfl) (by kernel_rfl) (by kernel_rfl) (fun _ _ _ h => h) (Or.inl ⟨by rfl, ?_⟩) (by assumption) ?_; rotate_left; (intro wq hSw; (try dsimp only at hSw); go_simp; (try with_reducible rfl)); rotate_left; (try dsimp only [Act.put]); (try simp only [List.setIfInBounds_toArray, List.set_cons_zero, List.set_cons_succ]))
      (refine wpAnyH_take (i := 6) (v := ?_) rfl (by kernel_rfl) (by kernel_rfl) (by kernel_rfl) (fun _ _ _ h => h) (Or.inl ⟨by rfl, ?_⟩) (by assumption) ?_; rotate_left; (intro wq hSw; (try dsimp only at hSw); go_simp; (try with_reducible rfl)); rotate_left; (try dsimp only [Act.put]); (try simp only [List.setIfInBounds_toArray, List.set_cons_zero, List.set_cons_succ]))
      (refine wpAnyH_take (i := 7) (v := ?_) rfl (by kernel_rfl) (by kernel_rfl) (by kernel_rfl) (fun _ _ _ h => h) (Or.inl ⟨by rfl, ?_⟩) (by assumption) ?_; rotate_left; (intro wq hSw; (try dsimp only at hSw); go_simp; (try with_reducible rfl)); rotate_left; (try dsimp only [Act.put]); (try simp only [List.setIfInBounds_toArray, List.set_cons_zero, List.set_cons_succ]))
      (refine wpAnyH_take (i := 8) (v := ?_) rfl (by kernel_rfl) (by kernel_rfl) (by kernel_rfl) (fun _ _ _ h => h) (Or.inl ⟨by rfl, ?_⟩) (by assumption) ?_; rotate_left; (intro wq hSw; (try dsimp only at hSw); go_simp; (try with_reducible rfl)); rotate_left; (try dsimp only [Act.put]); (try simp only [List.setIfInBounds_toArray, List.set_cons_zero, List.set_cons_succ]))
      (refine wpAnyH_take (i := 9) (v := ?_) rfl (by kernel_rfl) (by kernel_rfl) (by kernel_rfl) (fun _ _ _ h => h) (Or.inl ⟨by rfl, ?_⟩) (by assumption) ?_; rotate_left; (intro wq hSw; (try dsimp only at hSw); go_simp; (try with_reducible rfl)); rotate_left; (try dsimp only [Act.put]); (try simp only [List.setIfInBounds_toArray, List.set_cons_zero, List.set_cons_succ]))
      refine wpAnyH_done (by kernel_rfl) ?_ _
      have oR := HR.out.trk hB1
      have HA1 := Lib.hid (HA.out.below hB1)
      have hR1s : w.heap.size ≤ w1.heap.size := hB1.size
      clear hS1 b1 h2 h3 hX hPb
      have r0 : w1.cell? ⟨R, 0, none⟩ = some v := oR.2.1 0
      have fR0 : w1.frozen? ⟨R, 0, none⟩ = false := oR.2.2 0
      have hR1 := oR.1
      go_upto_region 4 with (at_builtin; refine wp_append_at (v := v) rfl _ _ rfl rfl rfl HA1.out HV.out (by have := HAc.out; simp; omega) ?_; intro v3 w2 o2 g2 b2; have oB : Only (fun i => v.ownBlock = some i) w1 w2 := ⟨g2.os, g2.tape, g2.output, g2.size, fun i hi hp => g2.block i hi (fun e => hp e.symm)⟩; have oR2 := oR.only oB (fun e => (HAi.out _ e).1 rfl); have oW1 : Only (Wv R v) w w2 := (Only.ne_ _ hB1).then_ (oB.mono fun i _ h => (show Wv R v i from .inr h)) (fun i _ h => h); have HO2 : Hid (Own2 w v v3) := b2.imp id (fun h g hg => by rw [h] at hg; injection hg with hg; omega); have HR3 : Hid (∀ g, v3.ownBlock = some g → ¬ g = R) := (fun g hg => by rcases b2 with b2 | b2; (· exact (HAi.out g (by rw [← b2]; exact hg)).1); (· rw [b2] at hg; injection hg with hg; omega)); obtain ⟨A3, n3, c3, rfl⟩ := o2.isSlice; have HA3 := Lib.hid o2; clear g2 b2 oB o2 oR r0 fR0 hR1 hB1 HA1 HV hR1s; have hR2 := oR2.1; have fR2 : w2.frozen? ⟨R, 0, none⟩ = false := oR2.2.2 0; have r2 : w2.cell? ⟨R, 0, none⟩ = some v := oR2.2.1 0)
      have o1 : Only (· = R) w2 (w2.setCell ⟨R, 0, none⟩ (.slice A3 n3 c3)) := (Only.refl (· = R) _).setCell (p := ⟨R, 0, none⟩) (.inr rfl) _
      have oR3 := oR2.put 0 (.slice A3 n3 c3) (Nat.le_of_ble_eq_true rfl)
      have oW := oW1.then_ (o1.mono fun i _ e => (show Wv R v i from .inl e)) (fun i _ h => h)
      have HA2 := Lib.hid (HA3.out.only o1 HR3.out)
      clear o1 oR2 oW1 HA3 hR2 fR2 r2
      generalize w2.setCell ⟨R, 0, none⟩ (.slice A3 n3 c3) = w3 at *
      have r3 : w3.cell? ⟨R, 3, none⟩ = some (.int .i64 0) := oR3.2.1 3
      have fR3 : w3.frozen? ⟨R, 3, none⟩ = false := oR3.2.2 3
      have hR3 := oR3.1
      go_wp2
      refine bodyPost_ret (results_none rfl _ _ _) rfl ?_
      have o4 : Only (· = R) w3 (w3.setCell ⟨R, 3, none⟩ (.int .i64 er2)) := (Only.refl (· = R) _).setCell (p := ⟨R, 3, none⟩) (.inr rfl) _
      exact ⟨rfl, (oW.then_ (o4.mono fun i _ e => (show Wv R v i from .inl e)) fun i _ h => h), _, er2, oR3.put 3 _ (Nat.le_of_ble_eq_true rfl), .inr ⟨hner, er, rfl⟩⟩
    · skip
      have HPP := Lib.hid hpp
      clear hpp
      go_enter Tryz.func109, Tryz.ntmps109
      go_upto_region 2 with fail
      have hrng := fun (wq : World) (h : wq.rangeAt T o (enc (get s)) ∧ wq.cell? ⟨Pb, 0, none⟩ = some (.func (.func f) #[] cap) ∧ wq.cell? ⟨X, 0, none⟩ = some (.pointer (some ⟨T, o, none⟩))) => h.1
      refine wp_region_held_drew (S := fun wq => wq.rangeAt T o (enc (get s)) ∧ wq.cell? ⟨Pb, 0, none⟩ = some (.func (.func f) #[] cap) ∧ wq.cell? ⟨X, 0, none⟩ = some (.pointer (some ⟨T, o, none⟩))) rfl ⟨HU.out, hPb, hX⟩ fun hS0 => ?_
      (refine wpAnyH_take (i := 0) (v := ?_) rfl (by kernel_rfl) (by kernel_rfl) (by kernel_rfl) (fun _ _ _ h => h) (Or.inl ⟨by rfl, ?_⟩) (by assumption) ?_; rotate_left; (intro wq hSw; (try dsimp only at hSw); go_simp; (try with_reducible rfl)); rotate_left; (try dsimp only [Act.put]); (try simp only [List.setIfInBounds_toArray, List.set_cons_zero, List.set_cons_succ]))
      (refine wpAnyH_take (i := 1) (v := ?_) rfl (by kernel_rfl) (by kernel_rfl) (by kernel_rfl) (fun _ _ _ h => h) (Or.inl ⟨by rfl, ?_⟩) (by assumption) ?_; rotate_left; (intro wq hSw; (try dsimp only at hSw); go_simp; (try with_reducible rfl)); rotate_left; (try dsimp only [Act.put]); (try simp only [List.setIfInBounds_toArray, List.set_cons_zero, List.set_cons_succ]))
      (refine wpAnyH_take (i := 2) (v := ?_) rfl (by kernel_rfl) (by kernel_rfl) (by kernel_rfl) (fun _ _ _ h => h) (Or.inl ⟨by rfl, ?_⟩) (by assumption) ?_; rotate_left; (intro wq hSw; (try dsimp only at hSw); go_simp; (try with_reducible rfl)); rotate_left; (try dsimp only [Act.put]); (try simp only [List.setIfInBounds_toArray, List.set_cons_zero, List.set_cons_succ]))
      refine wpAnyH_take (i := 3) (v := .agg (enc (get s)).toArray) rfl (by kernel_rfl) (by kernel_rfl) (by kernel_rfl) (fun _ _ _ h => h) (yieldsIf_load_mid (by rfl) _ _ rfl _ _ rfl (enc (get s)) _ hrng Tryz.underlying31 rfl (by rw [HLe.out]; kernel_rfl)) hS0 ?_
      (try dsimp only [Act.put]); (try simp only [List.setIfInBounds_toArray, List.set_cons_zero, List.set_cons_succ])
      refine wpAnyH_ready (rs := [4]) (by kernel_rfl) (by simp) ?_
      refine AllReadyH.cons rfl (fun K hK => ?_) AllReadyH.nil
      rw [if_pos (by rfl)]
      go_simp
      go_at_fn f; (refine Calls.mono (HC.out _ (HO.out.below (by (with_reducible (repeat' (first | exact Below.refl _ _ | assumption | apply bl_alloc | apply bl_drewN | apply bl_drew | refine bl_set ?_ ?_ _))) <;> (first | done | (simp; done) | (simp; omega) | omega))) _ HD.out) ?_); rintro e w1 ⟨b1, ⟨bs', v2, hp, rfl, hE⟩ | ⟨er', er2, hp, hner, rfl⟩⟩
      rotate_left; (exact absurd (HPP.out.symm.trans hp) (by simp)); (obtain rfl : bs = bs' := (by have := HPP.out.symm.trans hp; simpa using this)); (have HV := Lib.hid hE.rd); clear hE hp
      have hB1 : Below w.heap.size w w1 := bl_then (by (with_reducible (repeat' (first | exact Below.refl _ _ | assumption | apply bl_alloc | apply bl_drewN | apply bl_drew | refine bl_set ?_ ?_ _))) <;> (first | done | (simp; done) | (simp; omega) | omega)) b1
      have hcx := (bcell hB1).1
      go_wp2_with fail
      refine hK.out _ _ ⟨rangeAt_below HU.out (HTl.out) hB1, (hcx _ 0 hPl).trans hPb, (hcx _ 0 hXl).trans hX⟩ fun hS1 => ?_
      clear hS0 hcx hrng
      (try dsimp only [Act.put]); (try simp only [List.setIfInBounds_toArray, List.set_cons_zero, List.set_cons_succ])
      (refine wpAnyH_take (i := 5) (v := ?_) rfl (by kernel_rfl) (by kernel_rfl) (by kernel_rfl) (fun _ _ _ h => h) (Or.inl ⟨by rfl, ?_⟩) (by assumption) ?_; rotate_left; (intro wq hSw; (try dsimp only at hSw); go_simp; (try with_reducible rfl)); rotate_left; (try dsimp only [Act.put]); (try simp only [List.setIfInBounds_toArray, List.set_cons_zero, List.set_cons_succ]))
      (refine wpAnyH_take (i := 6) (v := ?_) rfl (by kernel_rfl) (by kernel_rfl) (by kernel_rfl) (fun _ _ _ h => h) (Or.inl ⟨by rfl, ?_⟩) (by assumption) ?_; rotate_left; (intro wq hSw; (try dsimp only at hSw); go_simp; (try with_reducible rfl)); rotate_left; (try dsimp only [Act.put]); (try simp only [List.setIfInBounds_toArray, List.set_cons_zero, List.set_cons_succ]))
      (refine wpAnyH_take (i := 7) (v := ?_) rfl (by kernel_rfl) (by kernel_rfl) (by kernel_rfl) (fun _ _ _ h => h) (Or.inl ⟨by rfl, ?_⟩) (by assumption) ?_; rotate_left; (intro wq hSw; (try dsimp only at hSw); go_simp; (try with_reducible rfl)); rotate_left; (try dsimp only [Act.put]); (try simp only [List.setIfInBounds_toArray, List.set_cons_zero, List.set_cons_succ]))
      (refine wpAnyH_take (i := 8) (v := ?_) rfl (by kernel_rfl) (by kernel_rfl) (by kernel_rfl) (fun _ _ _ h => h) (Or.inl ⟨by rfl, ?_⟩) (by assumption) ?_; rotate_left; (intro wq hSw; (try dsimp only at hSw); go_simp; (try with_reducible rfl)); rotate_left; (try dsimp only [Act.put]); (try simp only [List.setIfInBounds_toArray, List.set_cons_zero, List.set_cons_succ]))
      (refine wpAnyH_take (i := 9) (v := ?_) rfl (by kernel_rfl) (by kernel_rfl) (by kernel_rfl) (fun _ _ _ h => h) (Or.inl ⟨by rfl, ?_⟩) (by assumption) ?_; rotate_left; (intro wq hSw; (try dsimp only at hSw); go_simp; (try with_reducible rfl)); rotate_left; (try dsimp only [Act.put]); (try simp only [List.setIfInBounds_toArray, List.set_cons_zero, List.set_cons_succ]))
      refine wpAnyH_done (by kernel_rfl) ?_ _
      have oR := HR.out.trk hB1
      have HA1 := Lib.hid (HA.out.below hB1)
      have hR1s : w.heap.size ≤ w1.heap.size := hB1.size
      clear hS1 b1 h2 h3 hX hPb
      have r0 : w1.cell? ⟨R, 0, none⟩ = some v := oR.2.1 0
      have fR0 : w1.frozen? ⟨R, 0, none⟩ = false := oR.2.2 0
      have hR1 := oR.1
      go_upto_region 4 with (at_builtin; refine wp_append_at (v := v) rfl _ _ rfl rfl rfl HA1.out HV.out (by have := HLn.out _ _ HD.out HPP.out; have := HAc.out; omega) ?_; intro v3 w2 o2 g2 b2; have oB : Only (fun i => v.ownBlock = some i) w1 w2 := ⟨g2.os, g2.tape, g2.output, g2.size, fun i hi hp => g2.block i hi (fun e => hp e.symm)⟩; have oR2 := oR.only oB (fun e => (HAi.out _ e).1 rfl); have oW1 : Only (Wv R v) w w2 := (Only.ne_ _ hB1).then_ (oB.mono fun i _ h => (show Wv R v i from .inr h)) (fun i _ h => h); have HO2 : Hid (Own2 w v v3) := b2.imp id (fun h g hg => by rw [h] at hg; injection hg with hg; omega); have HR3 : Hid (∀ g, v3.ownBlock = some g → ¬ g = R) := (fun g hg => by rcases b2 with b2 | b2; (· exact (HAi.out g (by rw [← b2]; exact hg)).1); (· rw [b2] at hg; injection hg with hg; omega)); obtain ⟨A3, n3, c3, rfl⟩ := o2.isSlice; have HA3 := Lib.hid o2; clear g2 b2 oB o2 oR r0 fR0 hR1 hB1 HA1 HV hR1s; have hR2 := oR2.1; have fR2 : w2.frozen? ⟨R, 0, none⟩ = false := oR2.2.2 0; have r2 : w2.cell? ⟨R, 0, none⟩ = some v := oR2.2.1 0)
      have o1 : Only (· = R) w2 (w2.setCell ⟨R, 0, none⟩ (.slice A3 n3 c3)) := (Only.refl (· = R) _).setCell (p := ⟨R, 0, none⟩) (.inr rfl) _
      have oR3 := oR2.put 0 (.slice A3 n3 c3) (Nat.le_of_ble_eq_true rfl)
      have oW := oW1.then_ (o1.mono fun i _ e => (show Wv R v i from .inl e)) (fun i _ h => h)
      have HA2 := Lib.hid (HA3.out.only o1 HR3.out)
      clear o1 oR2 oW1 HA3 hR2 fR2 r2
      generalize w2.setCell ⟨R, 0, none⟩ (.slice A3 n3 c3) = w3 at *
      have r3 : w3.cell? ⟨R, 3, none⟩ = some (.int .i64 0) := oR3.2.1 3
      have fR3 : w3.frozen? ⟨R, 3, none⟩ = false := oR3.2.2 3
      have hR3 := oR3.1
      go_wp2
      refine bodyPost_ret (results_none rfl _ _ _) rfl ?_
      have o4 : Only (· = R) w3 (w3.setCell ⟨R, 3, none⟩ (.int .i64 0)) := (Only.refl (· = R) _).setCell (p := ⟨R, 3, none⟩) (.inr rfl) _
      exact ⟨rfl, (oW.then_ (o4.mono fun i _ e => (show Wv R v i from .inl e)) fun i _ h => h), _, 0, oR3.put 3 _ (Nat.le_of_ble_eq_true rfl), .inl ⟨rfl, bs, rfl, HA2.out.only o4 HR3.out, HO2.out⟩⟩
end Go.Proofs.YtgmhapjidbdhnaaGreat

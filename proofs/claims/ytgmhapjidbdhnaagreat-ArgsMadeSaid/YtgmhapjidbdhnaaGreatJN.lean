/- parts.of over string: what the part does when it writes. -/
import Derived.Test.YtgmhapjidbdhnaaGreatJI
import Derived.Deep.RegionHeld2
set_option linter.unusedVariables false
set_option linter.unusedSimpArgs false
namespace Go.Proofs.YtgmhapjidbdhnaaGreat
open Go.RowKit
set_option maxRecDepth 100000 in
set_option maxHeartbeats 4000000 in
theorem of32_wr {σ α : Type} {Rep : World → σ → Prop} {R : Nat} {Q : Nat → Prop} {w0 : World} {lo T o d : Nat} {fv gv pv : Value} {q : α → Except Int (List UInt8)} {D : World → α → Value → Prop} {get : σ → α}
    (hW : RepW Rep R Q w0) (hF : FldG Rep R T o D get) (hsh : OfShape 120 w0 lo fv gv pv T o) (hlo : ∀ i, lo ≤ i → i < w0.heap.size → ¬ Q i) (hg : Putter (Only Q w0) pv q D d)
    (hEv : ∀ w y u, D w y u → ∃ n : Int, u = .int .u32 n) :
    ∃ cap, fv = .func (.func 120) #[] cap ∧ WrPart Rep R Q w0 120 cap (fun s => q (get s)) d := by
  obtain ⟨X, G, Pb, rfl, a1, a2, a3, a4, a5, a6, c1, c2, c3⟩ := hsh.box
  refine ⟨_, rfl, fun args w => by kernel_rfl, fun w s bs hRep hq => ?_, fun w s v e ho hRep he hR => ?_, fun w s v acc ho hRep hR hA hAi hAc => ?_⟩
  · obtain ⟨u, _, hD⟩ := hF.has w s hRep
    exact hg.1 w _ u bs hD hq
  · have h3 : w.cell? ⟨R, 3, none⟩ = some (.int .i64 e) := hR.2.1 3
    have hRl := hR.1
    have he2 : ¬ e = 0 := he
    have HR := Lib.hid hR
    clear hR hRep ho he hEv hlo hF hW hg hsh c1 c2 c3
    show Calls Tryz.prog 120 #[.pointer (some ⟨R, 0, none⟩), .pointer (some ⟨Pb, 0, none⟩), .pointer (some ⟨X, 0, none⟩), .pointer (some ⟨G, 0, none⟩)] w _
    go_enter Tryz.func120, Tryz.ntmps120
    go_wp2
    refine bodyPost_ret (results_none rfl _ _ _) rfl ?_
    exact ⟨rfl, Only.refl _ _, HR.out⟩
  · have hX : w.cell? ⟨X, 0, none⟩ = some (.pointer (some ⟨T, o, none⟩)) := (ho.cell (a := ⟨X, 0, none⟩) a2 (hlo _ a1 a2)).trans c1
    have hPb : w.cell? ⟨Pb, 0, none⟩ = some pv := (ho.cell (a := ⟨Pb, 0, none⟩) a6 (hlo _ a5 a6)).trans c3
    have hXl : X < w.heap.size := Nat.lt_of_lt_of_le a2 ho.size
    have hPl : Pb < w.heap.size := Nat.lt_of_lt_of_le a6 ho.size
    have hTl : T < w.heap.size := hF.lt _ _ hRep
    obtain ⟨u, hu, hD⟩ := hF.has w.drew s (hW.new hRep (bl_drew (Below.refl _ _)))
    obtain ⟨n, rfl⟩ := hEv _ _ _ hD
    replace hu : w.cell? ⟨T, o, none⟩ = some (.int .u32 n) := hu
    have h0 : w.cell? ⟨R, 0, none⟩ = some v := hR.2.1 0
    have h2 : w.cell? ⟨R, 2, none⟩ = some (.bool false) := hR.2.1 2
    have h3 : w.cell? ⟨R, 3, none⟩ = some (.int .i64 0) := hR.2.1 3
    have h1 : True := trivial
    have hRl := hR.1
    obtain ⟨hln, f, cap, rfl, eg, hcall⟩ := hg
    have eg2 : ∀ (args : Array Value) (wx : World), (callFunc f args).run Tryz.prog wx = .ok (.enter f args) wx := eg
    have HAc := Lib.hid hAc; have HA := Lib.hid hA; have HAi := Lib.hid hAi; have HLn := Lib.hid hln
    have HC := Lib.hid hcall; have HO := Lib.hid ho; have HW := Lib.hid hW; have HF := Lib.hid hF; have HRep := Lib.hid hRep
    have HR := Lib.hid hR; have HD := Lib.hid hD
    clear hA hAc hAi hln hcall ho hW hF hRep hR hD hEv eg hlo hsh c1 c2 c3 a1 a2 a3 a4 a5 a6
    show Calls Tryz.prog 120 #[.pointer (some ⟨R, 0, none⟩), .pointer (some ⟨Pb, 0, none⟩), .pointer (some ⟨X, 0, none⟩), .pointer (some ⟨G, 0, none⟩)] w _
    rcases hpp : q (get s) with er | bs
    · clear h0
      have HPP := Lib.hid hpp
      clear hpp
      go_enter Tryz.func120, Tryz.ntmps120
      go_upto_region 2 with fail
      go_region_held3 (fun wx => wx.cell? ⟨Pb, 0, none⟩ = some (.func (.func f) #[] cap) ∧ wx.cell? ⟨X, 0, none⟩ = some (.pointer (some ⟨T, o, none⟩)) ∧ wx.cell? ⟨T, o, none⟩ = some (.int .u32 n)) (first | exact ⟨q0, q1, q2⟩ | (go_keep)) ((go_at_fn f; (refine Calls.mono (HC.out _ HO.out.drew _ _ HD.out) ?_); rintro e w1 ⟨b1, ⟨bs', v2, hp, rfl, hE⟩ | ⟨er', er2, hp, hner, rfl⟩⟩; (exact absurd (HPP.out.symm.trans hp) (by simp)); (have HV := Lib.hid (show Rd w1 (.slice none 0 0) [] from .inl ⟨rfl, rfl⟩)); clear hp; (have hB1 : Below w.heap.size w w1 := bl_then (bl_drew (Below.refl _ w)) b1); (have hcx := (bcell hB1).1); (have q0 : w1.cell? ⟨Pb, 0, none⟩ = some (.func (.func f) #[] cap) := (hcx _ 0 hPl).trans hPb); (have q1 : w1.cell? ⟨X, 0, none⟩ = some (.pointer (some ⟨T, o, none⟩)) := (hcx _ 0 hXl).trans hX); (have q2 : w1.cell? ⟨T, o, none⟩ = some (.int .u32 n) := (hcx _ o hTl).trans hu); (have oR := HR.out.trk hB1); (have HA1 := Lib.hid (HA.out.below hB1)); (have hR1s : w.heap.size ≤ w1.heap.size := hB1.size); clear hcx b1))
      clear h1 h2 h3 hX hPb hu
      have r0 : w1.cell? ⟨R, 0, none⟩ = some v := oR.2.1 0
      have fR0 : w1.frozen? ⟨R, 0, none⟩ = false := oR.2.2 0
      have hR1 := oR.1
      clear q0 q1 q2
      go_upto_region 4 with (at_builtin; refine wp_append_at (v := v) rfl _ _ rfl rfl rfl HA1.out HV.out (by have := HAc.out; simp; omega) ?_; intro v3 w2 o2 g2 b2; have oB : Only (fun i => v.ownBlock = some i) w1 w2 := ⟨g2.os, g2.tape, g2.output, g2.size, fun i hi hp => g2.block i hi (fun e => hp e.symm)⟩; have oR2 := oR.only oB (fun e => (HAi.out _ e).1 rfl); have oW1 : Only (Wv R v) w w2 := (Only.ne_ _ hB1).then_ (oB.mono fun i _ h => (show Wv R v i from .inr h)) (fun i _ h => h); have HO2 : Hid (Own2 w v v3) := b2.imp id (fun h g hg => by rw [h] at hg; injection hg with hg; omega); have HR3 : Hid (∀ g, v3.ownBlock = some g → ¬ g = R) := (fun g hg => by rcases b2 with b2 | b2; (· exact (HAi.out g (by rw [← b2]; exact hg)).1); (· rw [b2] at hg; injection hg with hg; omega)); obtain ⟨A3, n3, c3, rfl⟩ := o2.isSlice; have HA3 := Lib.hid o2; clear g2 b2 oB o2 oR r0 fR0 hR1 hB1 HA1 HV hR1s; have hR2 := oR2.1; have fR2 : w2.frozen? ⟨R, 0, none⟩ = false := oR2.2.2 0; have r2 : w2.cell? ⟨R, 0, none⟩ = some v := oR2.2.1 0)
      have o1 : Only (· = R) w2 (w2.setCell ⟨R, 0, none⟩ (.slice A3 n3 c3)) := (Only.refl (· = R) _).setCell (p := ⟨R, 0, none⟩) (.inr rfl) _
      have oR3 := oR2.put 0 (.slice A3 n3 c3) (Nat.le_of_ble_eq_true rfl)
      have oW := oW1.then_ (o1.mono fun i _ e => (show Wv R v i from .inl e)) (fun i _ h => h)
      have HA2 := Lib.hid (HA3.out.only o1 HR3.out)
      clear o1 oR2 oW1 HA3 hR2 fR2 r2
      generalize w2.setCell ⟨R, 0, none⟩ (.slice A3 n3 c3) = w3 at *
      have r3 : w3.cell? ⟨R, 3, none⟩ = some (.int .i64 0) := oR3.2.1 3
      have fR3 : w3.frozen? ⟨R, 3, none⟩ = false := oR3.2.2 3
      have hR3 := oR3.1
      go_wp2
      refine bodyPost_ret (results_none rfl _ _ _) rfl ?_
      have o4 : Only (· = R) w3 (w3.setCell ⟨R, 3, none⟩ (.int .i64 er2)) := (Only.refl (· = R) _).setCell (p := ⟨R, 3, none⟩) (.inr rfl) _
      exact ⟨rfl, (oW.then_ (o4.mono fun i _ e => (show Wv R v i from .inl e)) fun i _ h => h), _, er2, oR3.put 3 _ (Nat.le_of_ble_eq_true rfl), .inr ⟨hner, er, rfl⟩⟩
    · clear h0
      have HPP := Lib.hid hpp
      clear hpp
      go_enter Tryz.func120, Tryz.ntmps120
      go_upto_region 2 with fail
      go_region_held3 (fun wx => wx.cell? ⟨Pb, 0, none⟩ = some (.func (.func f) #[] cap) ∧ wx.cell? ⟨X, 0, none⟩ = some (.pointer (some ⟨T, o, none⟩)) ∧ wx.cell? ⟨T, o, none⟩ = some (.int .u32 n)) (first | exact ⟨q0, q1, q2⟩ | (go_keep)) ((go_at_fn f; (refine Calls.mono (HC.out _ HO.out.drew _ _ HD.out) ?_); rintro e w1 ⟨b1, ⟨bs', v2, hp, rfl, hE⟩ | ⟨er', er2, hp, hner, rfl⟩⟩; rotate_left; (exact absurd (HPP.out.symm.trans hp) (by simp)); (obtain rfl : bs = bs' := (by have := HPP.out.symm.trans hp; simpa using this)); (have HV := Lib.hid hE.rd); clear hE hp; (have hB1 : Below w.heap.size w w1 := bl_then (bl_drew (Below.refl _ w)) b1); (have hcx := (bcell hB1).1); (have q0 : w1.cell? ⟨Pb, 0, none⟩ = some (.func (.func f) #[] cap) := (hcx _ 0 hPl).trans hPb); (have q1 : w1.cell? ⟨X, 0, none⟩ = some (.pointer (some ⟨T, o, none⟩)) := (hcx _ 0 hXl).trans hX); (have q2 : w1.cell? ⟨T, o, none⟩ = some (.int .u32 n) := (hcx _ o hTl).trans hu); (have oR := HR.out.trk hB1); (have HA1 := Lib.hid (HA.out.below hB1)); (have hR1s : w.heap.size ≤ w1.heap.size := hB1.size); clear hcx b1))
      clear h1 h2 h3 hX hPb hu
      have r0 : w1.cell? ⟨R, 0, none⟩ = some v := oR.2.1 0
      have fR0 : w1.frozen? ⟨R, 0, none⟩ = false := oR.2.2 0
      have hR1 := oR.1
      clear q0 q1 q2
      go_upto_region 4 with (at_builtin; refine wp_append_at (v := v) rfl _ _ rfl rfl rfl HA1.out HV.out (by have := HLn.out _ _ _ _ HD.out HPP.out; have := HAc.out; omega) ?_; intro v3 w2 o2 g2 b2; have oB : Only (fun i => v.ownBlock = some i) w1 w2 := ⟨g2.os, g2.tape, g2.output, g2.size, fun i hi hp => g2.block i hi (fun e => hp e.symm)⟩; have oR2 := oR.only oB (fun e => (HAi.out _ e).1 rfl); have oW1 : Only (Wv R v) w w2 := (Only.ne_ _ hB1).then_ (oB.mono fun i _ h => (show Wv R v i from .inr h)) (fun i _ h => h); have HO2 : Hid (Own2 w v v3) := b2.imp id (fun h g hg => by rw [h] at hg; injection hg with hg; omega); have HR3 : Hid (∀ g, v3.ownBlock = some g → ¬ g = R) := (fun g hg => by rcases b2 with b2 | b2; (· exact (HAi.out g (by rw [← b2]; exact hg)).1); (· rw [b2] at hg; injection hg with hg; omega)); obtain ⟨A3, n3, c3, rfl⟩ := o2.isSlice; have HA3 := Lib.hid o2; clear g2 b2 oB o2 oR r0 fR0 hR1 hB1 HA1 HV hR1s; have hR2 := oR2.1; have fR2 : w2.frozen? ⟨R, 0, none⟩ = false := oR2.2.2 0; have r2 : w2.cell? ⟨R, 0, none⟩ = some v := oR2.2.1 0)
      have o1 : Only (· = R) w2 (w2.setCell ⟨R, 0, none⟩ (.slice A3 n3 c3)) := (Only.refl (· = R) _).setCell (p := ⟨R, 0, none⟩) (.inr rfl) _
      have oR3 := oR2.put 0 (.slice A3 n3 c3) (Nat.le_of_ble_eq_true rfl)
      have oW := oW1.then_ (o1.mono fun i _ e => (show Wv R v i from .inl e)) (fun i _ h => h)
      have HA2 := Lib.hid (HA3.out.only o1 HR3.out)
      clear o1 oR2 oW1 HA3 hR2 fR2 r2
      generalize w2.setCell ⟨R, 0, none⟩ (.slice A3 n3 c3) = w3 at *
      have r3 : w3.cell? ⟨R, 3, none⟩ = some (.int .i64 0) := oR3.2.1 3
      have fR3 : w3.frozen? ⟨R, 3, none⟩ = false := oR3.2.2 3
      have hR3 := oR3.1
      go_wp2
      refine bodyPost_ret (results_none rfl _ _ _) rfl ?_
      have o4 : Only (· = R) w3 (w3.setCell ⟨R, 3, none⟩ (.int .i64 0)) := (Only.refl (· = R) _).setCell (p := ⟨R, 3, none⟩) (.inr rfl) _
      exact ⟨rfl, (oW.then_ (o4.mono fun i _ e => (show Wv R v i from .inl e)) fun i _ h => h), _, 0, oR3.put 3 _ (Nat.le_of_ble_eq_true rfl), .inl ⟨rfl, bs, rfl, HA2.out.only o4 HR3.out, HO2.out⟩⟩
end Go.Proofs.YtgmhapjidbdhnaaGreat
namespace Go.Proofs.YtgmhapjidbdhnaaGreat
open Go.RowKit
set_option maxRecDepth 100000 in
set_option maxHeartbeats 4000000 in
theorem of64_wr {σ α : Type} {Rep : World → σ → Prop} {R : Nat} {Q : Nat → Prop} {w0 : World} {lo T o d : Nat} {fv gv pv : Value} {q : α → Except Int (List UInt8)} {D : World → α → Value → Prop} {get : σ → α}
    (hW : RepW Rep R Q w0) (hF : FldG Rep R T o D get) (hsh : OfShape 119 w0 lo fv gv pv T o) (hlo : ∀ i, lo ≤ i → i < w0.heap.size → ¬ Q i) (hg : Putter (Only Q w0) pv q D d)
    (hEv : ∀ w y u, D w y u → ∃ n : Int, u = .int .u64 n) :
    ∃ cap, fv = .func (.func 119) #[] cap ∧ WrPart Rep R Q w0 119 cap (fun s => q (get s)) d := by
  obtain ⟨X, G, Pb, rfl, a1, a2, a3, a4, a5, a6, c1, c2, c3⟩ := hsh.box
  refine ⟨_, rfl, fun args w => by kernel_rfl, fun w s bs hRep hq => ?_, fun w s v e ho hRep he hR => ?_, fun w s v acc ho hRep hR hA hAi hAc => ?_⟩
  · obtain ⟨u, _, hD⟩ := hF.has w s hRep
    exact hg.1 w _ u bs hD hq
  · have h3 : w.cell? ⟨R, 3, none⟩ = some (.int .i64 e) := hR.2.1 3
    have hRl := hR.1
    have he2 : ¬ e = 0 := he
    have HR := Lib.hid hR
    clear hR hRep ho he hEv hlo hF hW hg hsh c1 c2 c3
    show Calls Tryz.prog 119 #[.pointer (some ⟨R, 0, none⟩), .pointer (some ⟨Pb, 0, none⟩), .pointer (some ⟨X, 0, none⟩), .pointer (some ⟨G, 0, none⟩)] w _
    go_enter Tryz.func119, Tryz.ntmps119
    go_wp2
    refine bodyPost_ret (results_none rfl _ _ _) rfl ?_
    exact ⟨rfl, Only.refl _ _, HR.out⟩
  · have hX : w.cell? ⟨X, 0, none⟩ = some (.pointer (some ⟨T, o, none⟩)) := (ho.cell (a := ⟨X, 0, none⟩) a2 (hlo _ a1 a2)).trans c1
    have hPb : w.cell? ⟨Pb, 0, none⟩ = some pv := (ho.cell (a := ⟨Pb, 0, none⟩) a6 (hlo _ a5 a6)).trans c3
    have hXl : X < w.heap.size := Nat.lt_of_lt_of_le a2 ho.size
    have hPl : Pb < w.heap.size := Nat.lt_of_lt_of_le a6 ho.size
    have hTl : T < w.heap.size := hF.lt _ _ hRep
    obtain ⟨u, hu, hD⟩ := hF.has w.drew s (hW.new hRep (bl_drew (Below.refl _ _)))
    obtain ⟨n, rfl⟩ := hEv _ _ _ hD
    replace hu : w.cell? ⟨T, o, none⟩ = some (.int .u64 n) := hu
    have h0 : w.cell? ⟨R, 0, none⟩ = some v := hR.2.1 0
    have h2 : w.cell? ⟨R, 2, none⟩ = some (.bool false) := hR.2.1 2
    have h3 : w.cell? ⟨R, 3, none⟩ = some (.int .i64 0) := hR.2.1 3
    have h1 : True := trivial
    have hRl := hR.1
    obtain ⟨hln, f, cap, rfl, eg, hcall⟩ := hg
    have eg2 : ∀ (args : Array Value) (wx : World), (callFunc f args).run Tryz.prog wx = .ok (.enter f args) wx := eg
    have HAc := Lib.hid hAc; have HA := Lib.hid hA; have HAi := Lib.hid hAi; have HLn := Lib.hid hln
    have HC := Lib.hid hcall; have HO := Lib.hid ho; have HW := Lib.hid hW; have HF := Lib.hid hF; have HRep := Lib.hid hRep
    have HR := Lib.hid hR; have HD := Lib.hid hD
    clear hA hAc hAi hln hcall ho hW hF hRep hR hD hEv eg hlo hsh c1 c2 c3 a1 a2 a3 a4 a5 a6
    show Calls Tryz.prog 119 #[.pointer (some ⟨R, 0, none⟩), .pointer (some ⟨Pb, 0, none⟩), .pointer (some ⟨X, 0, none⟩), .pointer (some ⟨G, 0, none⟩)] w _
    rcases hpp : q (get s) with er | bs
    · clear h0
      have HPP := Lib.hid hpp
      clear hpp
      go_enter Tryz.func119, Tryz.ntmps119
      go_upto_region 2 with fail
      go_region_held3 (fun wx => wx.cell? ⟨Pb, 0, none⟩ = some (.func (.func f) #[] cap) ∧ wx.cell? ⟨X, 0, none⟩ = some (.pointer (some ⟨T, o, none⟩)) ∧ wx.cell? ⟨T, o, none⟩ = some (.int .u64 n)) (first | exact ⟨q0, q1, q2⟩ | (go_keep)) ((go_at_fn f; (refine Calls.mono (HC.out _ HO.out.drew _ _ HD.out) ?_); rintro e w1 ⟨b1, ⟨bs', v2, hp, rfl, hE⟩ | ⟨er', er2, hp, hner, rfl⟩⟩; (exact absurd (HPP.out.symm.trans hp) (by simp)); (have HV := Lib.hid (show Rd w1 (.slice none 0 0) [] from .inl ⟨rfl, rfl⟩)); clear hp; (have hB1 : Below w.heap.size w w1 := bl_then (bl_drew (Below.refl _ w)) b1); (have hcx := (bcell hB1).1); (have q0 : w1.cell? ⟨Pb, 0, none⟩ = some (.func (.func f) #[] cap) := (hcx _ 0 hPl).trans hPb); (have q1 : w1.cell? ⟨X, 0, none⟩ = some (.pointer (some ⟨T, o, none⟩)) := (hcx _ 0 hXl).trans hX); (have q2 : w1.cell? ⟨T, o, none⟩ = some (.int .u64 n) := (hcx _ o hTl).trans hu); (have oR := HR.out.trk hB1); (have HA1 := Lib.hid (HA.out.below hB1)); (have hR1s : w.heap.size ≤ w1.heap.size := hB1.size); clear hcx b1))
      clear h1 h2 h3 hX hPb hu
      have r0 : w1.cell? ⟨R, 0, none⟩ = some v := oR.2.1 0
      have fR0 : w1.frozen? ⟨R, 0, none⟩ = false := oR.2.2 0
      have hR1 := oR.1
      clear q0 q1 q2
      go_upto_region 4 with (at_builtin; refine wp_append_at (v := v) rfl _ _ rfl rfl rfl HA1.out HV.out (by have := HAc.out; simp; omega) ?_; intro v3 w2 o2 g2 b2; have oB : Only (fun i => v.ownBlock = some i) w1 w2 := ⟨g2.os, g2.tape, g2.output, g2.size, fun i hi hp => g2.block i hi (fun e => hp e.symm)⟩; have oR2 := oR.only oB (fun e => (HAi.out _ e).1 rfl); have oW1 : Only (Wv R v) w w2 := (Only.ne_ _ hB1).then_ (oB.mono fun i _ h => (show Wv R v i from .inr h)) (fun i _ h => h); have HO2 : Hid (Own2 w v v3) := b2.imp id (fun h g hg => by rw [h] at hg; injection hg with hg; omega); have HR3 : Hid (∀ g, v3.ownBlock = some g → ¬ g = R) := (fun g hg => by rcases b2 with b2 | b2; (· exact (HAi.out g (by rw [← b2]; exact hg)).1); (· rw [b2] at hg; injection hg with hg; omega)); obtain ⟨A3, n3, c3, rfl⟩ := o2.isSlice; have HA3 := Lib.hid o2; clear g2 b2 oB o2 oR r0 fR0 hR1 hB1 HA1 HV hR1s; have hR2 := oR2.1; have fR2 : w2.frozen? ⟨R, 0, none⟩ = false := oR2.2.2 0; have r2 : w2.cell? ⟨R, 0, none⟩ = some v := oR2.2.1 0)
      have o1 : Only (· = R) w2 (w2.setCell ⟨R, 0, none⟩ (.slice A3 n3 c3)) := (Only.refl (· = R) _).setCell (p := ⟨R, 0, none⟩) (.inr rfl) _
      have oR3 := oR2.put 0 (.slice A3 n3 c3) (Nat.le_of_ble_eq_true rfl)
      have oW := oW1.then_ (o1.mono fun i _ e => (show Wv R v i from .inl e)) (fun i _ h => h)
      have HA2 := Lib.hid (HA3.out.only o1 HR3.out)
      clear o1 oR2 oW1 HA3 hR2 fR2 r2
      generalize w2.setCell ⟨R, 0, none⟩ (.slice A3 n3 c3) = w3 at *
      have r3 : w3.cell? ⟨R, 3, none⟩ = some (.int .i64 0) := oR3.2.1 3
      have fR3 : w3.frozen? ⟨R, 3, none⟩ = false := oR3.2.2 3
      have hR3 := oR3.1
      go_wp2
      refine bodyPost_ret (results_none rfl _ _ _) rfl ?_
      have o4 : Only (· = R) w3 (w3.setCell ⟨R, 3, none⟩ (.int .i64 er2)) := (Only.refl (· = R) _).setCell (p := ⟨R, 3, none⟩) (.inr rfl) _
      exact ⟨rfl, (oW.then_ (o4.mono fun i _ e => (show Wv R v i from .inl e)) fun i _ h => h), _, er2, oR3.put 3 _ (Nat.le_of_ble_eq_true rfl), .inr ⟨hner, er, rfl⟩⟩
    · clear h0
      have HPP := Lib.hid hpp
      clear hpp
      go_enter Tryz.func119, Tryz.ntmps119
      go_upto_region 2 with fail
      go_region_held3 (fun wx => wx.cell? ⟨Pb, 0, none⟩ = some (.func (.func f) #[] cap) ∧ wx.cell? ⟨X, 0, none⟩ = some (.pointer (some ⟨T, o, none⟩)) ∧ wx.cell? ⟨T, o, none⟩ = some (.int .u64 n)) (first | exact ⟨q0, q1, q2⟩ | (go_keep)) ((go_at_fn f; (refine Calls.mono (HC.out _ HO.out.drew _ _ HD.out) ?_); rintro e w1 ⟨b1, ⟨bs', v2, hp, rfl, hE⟩ | ⟨er', er2, hp, hner, rfl⟩⟩; rotate_left; (exact absurd (HPP.out.symm.trans hp) (by simp)); (obtain rfl : bs = bs' := (by have := HPP.out.symm.trans hp; simpa using this)); (have HV := Lib.hid hE.rd); clear hE hp; (have hB1 : Below w.heap.size w w1 := bl_then (bl_drew (Below.refl _ w)) b1); (have hcx := (bcell hB1).1); (have q0 : w1.cell? ⟨Pb, 0, none⟩ = some (.func (.func f) #[] cap) := (hcx _ 0 hPl).trans hPb); (have q1 : w1.cell? ⟨X, 0, none⟩ = some (.pointer (some ⟨T, o, none⟩)) := (hcx _ 0 hXl).trans hX); (have q2 : w1.cell? ⟨T, o, none⟩ = some (.int .u64 n) := (hcx _ o hTl).trans hu); (have oR := HR.out.trk hB1); (have HA1 := Lib.hid (HA.out.below hB1)); (have hR1s : w.heap.size ≤ w1.heap.size := hB1.size); clear hcx b1))
      clear h1 h2 h3 hX hPb hu
      have r0 : w1.cell? ⟨R, 0, none⟩ = some v := oR.2.1 0
      have fR0 : w1.frozen? ⟨R, 0, none⟩ = false := oR.2.2 0
      have hR1 := oR.1
      clear q0 q1 q2
      go_upto_region 4 with (at_builtin; refine wp_append_at (v := v) rfl _ _ rfl rfl rfl HA1.out HV.out (by have := HLn.out _ _ _ _ HD.out HPP.out; have := HAc.out; omega) ?_; intro v3 w2 o2 g2 b2; have oB : Only (fun i => v.ownBlock = some i) w1 w2 := ⟨g2.os, g2.tape, g2.output, g2.size, fun i hi hp => g2.block i hi (fun e => hp e.symm)⟩; have oR2 := oR.only oB (fun e => (HAi.out _ e).1 rfl); have oW1 : Only (Wv R v) w w2 := (Only.ne_ _ hB1).then_ (oB.mono fun i _ h => (show Wv R v i from .inr h)) (fun i _ h => h); have HO2 : Hid (Own2 w v v3) := b2.imp id (fun h g hg => by rw [h] at hg; injection hg with hg; omega); have HR3 : Hid (∀ g, v3.ownBlock = some g → ¬ g = R) := (fun g hg => by rcases b2 with b2 | b2; (· exact (HAi.out g (by rw [← b2]; exact hg)).1); (· rw [b2] at hg; injection hg with hg; omega)); obtain ⟨A3, n3, c3, rfl⟩ := o2.isSlice; have HA3 := Lib.hid o2; clear g2 b2 oB o2 oR r0 fR0 hR1 hB1 HA1 HV hR1s; have hR2 := oR2.1; have fR2 : w2.frozen? ⟨R, 0, none⟩ = false := oR2.2.2 0; have r2 : w2.cell? ⟨R, 0, none⟩ = some v := oR2.2.1 0)
      have o1 : Only (· = R) w2 (w2.setCell ⟨R, 0, none⟩ (.slice A3 n3 c3)) := (Only.refl (· = R) _).setCell (p := ⟨R, 0, none⟩) (.inr rfl) _
      have oR3 := oR2.put 0 (.slice A3 n3 c3) (Nat.le_of_ble_eq_true rfl)
      have oW := oW1.then_ (o1.mono fun i _ e => (show Wv R v i from .inl e)) (fun i _ h => h)
      have HA2 := Lib.hid (HA3.out.only o1 HR3.out)
      clear o1 oR2 oW1 HA3 hR2 fR2 r2
      generalize w2.setCell ⟨R, 0, none⟩ (.slice A3 n3 c3) = w3 at *
      have r3 : w3.cell? ⟨R, 3, none⟩ = some (.int .i64 0) := oR3.2.1 3
      have fR3 : w3.frozen? ⟨R, 3, none⟩ = false := oR3.2.2 3
      have hR3 := oR3.1
      go_wp2
      refine bodyPost_ret (results_none rfl _ _ _) rfl ?_
      have o4 : Only (· = R) w3 (w3.setCell ⟨R, 3, none⟩ (.int .i64 0)) := (Only.refl (· = R) _).setCell (p := ⟨R, 3, none⟩) (.inr rfl) _
      exact ⟨rfl, (oW.then_ (o4.mono fun i _ e => (show Wv R v i from .inl e)) fun i _ h => h), _, 0, oR3.put 3 _ (Nat.le_of_ble_eq_true rfl), .inl ⟨rfl, bs, rfl, HA2.out.only o4 HR3.out, HO2.out⟩⟩
end Go.Proofs.YtgmhapjidbdhnaaGreat
namespace Go.Proofs.YtgmhapjidbdhnaaGreat
open Go.RowKit
set_option maxRecDepth 100000 in
set_option maxHeartbeats 4000000 in
theorem ofY_wr {σ α : Type} {Rep : World → σ → Prop} {R : Nat} {Q : Nat → Prop} {w0 : World} {lo T o d : Nat} {fv gv pv : Value} {q : α → Except Int (List UInt8)} {D : World → α → Value → Prop} {get : σ → α}
    (hW : RepW Rep R Q w0) (hF : FldG Rep R T o D get) (hsh : OfShape 127 w0 lo fv gv pv T o) (hlo : ∀ i, lo ≤ i → i < w0.heap.size → ¬ Q i) (hg : Putter (Only Q w0) pv q D d)
    (hEv : ∀ w y u, D w y u → ∃ n : Bool, u = .bool n) :
    ∃ cap, fv = .func (.func 127) #[] cap ∧ WrPart Rep R Q w0 127 cap (fun s => q (get s)) d := by
  obtain ⟨X, G, Pb, rfl, a1, a2, a3, a4, a5, a6, c1, c2, c3⟩ := hsh.box
  refine ⟨_, rfl, fun args w => by kernel_rfl, fun w s bs hRep hq => ?_, fun w s v e ho hRep he hR => ?_, fun w s v acc ho hRep hR hA hAi hAc => ?_⟩
  · obtain ⟨u, _, hD⟩ := hF.has w s hRep
    exact hg.1 w _ u bs hD hq
  · have h3 : w.cell? ⟨R, 3, none⟩ = some (.int .i64 e) := hR.2.1 3
    have hRl := hR.1
    have he2 : ¬ e = 0 := he
    have HR := Lib.hid hR
    clear hR hRep ho he hEv hlo hF hW hg hsh c1 c2 c3
    show Calls Tryz.prog 127 #[.pointer (some ⟨R, 0, none⟩), .pointer (some ⟨Pb, 0, none⟩), .pointer (some ⟨X, 0, none⟩), .pointer (some ⟨G, 0, none⟩)] w _
    go_enter Tryz.func127, Tryz.ntmps127
    go_wp2
    refine bodyPost_ret (results_none rfl _ _ _) rfl ?_
    exact ⟨rfl, Only.refl _ _, HR.out⟩
  · have hX : w.cell? ⟨X, 0, none⟩ = some (.pointer (some ⟨T, o, none⟩)) := (ho.cell (a := ⟨X, 0, none⟩) a2 (hlo _ a1 a2)).trans c1
    have hPb : w.cell? ⟨Pb, 0, none⟩ = some pv := (ho.cell (a := ⟨Pb, 0, none⟩) a6 (hlo _ a5 a6)).trans c3
    have hXl : X < w.heap.size := Nat.lt_of_lt_of_le a2 ho.size
    have hPl : Pb < w.heap.size := Nat.lt_of_lt_of_le a6 ho.size
    have hTl : T < w.heap.size := hF.lt _ _ hRep
    obtain ⟨u, hu, hD⟩ := hF.has w.drew s (hW.new hRep (bl_drew (Below.refl _ _)))
    obtain ⟨n, rfl⟩ := hEv _ _ _ hD
    replace hu : w.cell? ⟨T, o, none⟩ = some (.bool n) := hu
    have h0 : w.cell? ⟨R, 0, none⟩ = some v := hR.2.1 0
    have h2 : w.cell? ⟨R, 2, none⟩ = some (.bool false) := hR.2.1 2
    have h3 : w.cell? ⟨R, 3, none⟩ = some (.int .i64 0) := hR.2.1 3
    have h1 : True := trivial
    have hRl := hR.1
    obtain ⟨hln, f, cap, rfl, eg, hcall⟩ := hg
    have eg2 : ∀ (args : Array Value) (wx : World), (callFunc f args).run Tryz.prog wx = .ok (.enter f args) wx := eg
    have HAc := Lib.hid hAc; have HA := Lib.hid hA; have HAi := Lib.hid hAi; have HLn := Lib.hid hln
    have HC := Lib.hid hcall; have HO := Lib.hid ho; have HW := Lib.hid hW; have HF := Lib.hid hF; have HRep := Lib.hid hRep
    have HR := Lib.hid hR; have HD := Lib.hid hD
    clear hA hAc hAi hln hcall ho hW hF hRep hR hD hEv eg hlo hsh c1 c2 c3 a1 a2 a3 a4 a5 a6
    show Calls Tryz.prog 127 #[.pointer (some ⟨R, 0, none⟩), .pointer (some ⟨Pb, 0, none⟩), .pointer (some ⟨X, 0, none⟩), .pointer (some ⟨G, 0, none⟩)] w _
    rcases hpp : q (get s) with er | bs
    · clear h0
      have HPP := Lib.hid hpp
      clear hpp
      go_enter Tryz.func127, Tryz.ntmps127
      go_upto_region 2 with fail
      go_region_held3 (fun wx => wx.cell? ⟨Pb, 0, none⟩ = some (.func (.func f) #[] cap) ∧ wx.cell? ⟨X, 0, none⟩ = some (.pointer (some ⟨T, o, none⟩)) ∧ wx.cell? ⟨T, o, none⟩ = some (.bool n)) (first | exact ⟨q0, q1, q2⟩ | (go_keep)) ((go_at_fn f; (refine Calls.mono (HC.out _ HO.out.drew _ _ HD.out) ?_); rintro e w1 ⟨b1, ⟨bs', v2, hp, rfl, hE⟩ | ⟨er', er2, hp, hner, rfl⟩⟩; (exact absurd (HPP.out.symm.trans hp) (by simp)); (have HV := Lib.hid (show Rd w1 (.slice none 0 0) [] from .inl ⟨rfl, rfl⟩)); clear hp; (have hB1 : Below w.heap.size w w1 := bl_then (bl_drew (Below.refl _ w)) b1); (have hcx := (bcell hB1).1); (have q0 : w1.cell? ⟨Pb, 0, none⟩ = some (.func (.func f) #[] cap) := (hcx _ 0 hPl).trans hPb); (have q1 : w1.cell? ⟨X, 0, none⟩ = some (.pointer (some ⟨T, o, none⟩)) := (hcx _ 0 hXl).trans hX); (have q2 : w1.cell? ⟨T, o, none⟩ = some (.bool n) := (hcx _ o hTl).trans hu); (have oR := HR.out.trk hB1); (have HA1 := Lib.hid (HA.out.below hB1)); (have hR1s : w.heap.size ≤ w1.heap.size := hB1.size); clear hcx b1))
      clear h1 h2 h3 hX hPb hu
      have r0 : w1.cell? ⟨R, 0, none⟩ = some v := oR.2.1 0
      have fR0 : w1.frozen? ⟨R, 0, none⟩ = false := oR.2.2 0
      have hR1 := oR.1
      clear q0 q1 q2
      go_upto_region 4 with (at_builtin; refine wp_append_at (v := v) rfl _ _ rfl rfl rfl HA1.out HV.out (by have := HAc.out; simp; omega) ?_; intro v3 w2 o2 g2 b2; have oB : Only (fun i => v.ownBlock = some i) w1 w2 := ⟨g2.os, g2.tape, g2.output, g2.size, fun i hi hp => g2.block i hi (fun e => hp e.symm)⟩; have oR2 := oR.only oB (fun e => (HAi.out _ e).1 rfl); have oW1 : Only (Wv R v) w w2 := (Only.ne_ _ hB1).then_ (oB.mono fun i _ h => (show Wv R v i from .inr h)) (fun i _ h => h); have HO2 : Hid (Own2 w v v3) := b2.imp id (fun h g hg => by rw [h] at hg; injection hg with hg; omega); have HR3 : Hid (∀ g, v3.ownBlock = some g → ¬ g = R) := (fun g hg => by rcases b2 with b2 | b2; (· exact (HAi.out g (by rw [← b2]; exact hg)).1); (· rw [b2] at hg; injection hg with hg; omega)); obtain ⟨A3, n3, c3, rfl⟩ := o2.isSlice; have HA3 := Lib.hid o2; clear g2 b2 oB o2 oR r0 fR0 hR1 hB1 HA1 HV hR1s; have hR2 := oR2.1; have fR2 : w2.frozen? ⟨R, 0, none⟩ = false := oR2.2.2 0; have r2 : w2.cell? ⟨R, 0, none⟩ = some v := oR2.2.1 0)
      have o1 : Only (· = R) w2 (w2.setCell ⟨R, 0, none⟩ (.slice A3 n3 c3)) := (Only.refl (· = R) _).setCell (p := ⟨R, 0, none⟩) (.inr rfl) _
      have oR3 := oR2.put 0 (.slice A3 n3 c3) (Nat.le_of_ble_eq_true rfl)
      have oW := oW1.then_ (o1.mono fun i _ e => (show Wv R v i from .inl e)) (fun i _ h => h)
      have HA2 := Lib.hid (HA3.out.only o1 HR3.out)
      clear o1 oR2 oW1 HA3 hR2 fR2 r2
      generalize w2.setCell ⟨R, 0, none⟩ (.slice A3 n3 c3) = w3 at *
      have r3 : w3.cell? ⟨R, 3, none⟩ = some (.int .i64 0) := oR3.2.1 3
      have fR3 : w3.frozen? ⟨R, 3, none⟩ = false := oR3.2.2 3
      have hR3 := oR3.1
      go_wp2
      refine bodyPost_ret (results_none rfl _ _ _) rfl ?_
      have o4 : Only (· = R) w3 (w3.setCell ⟨R, 3, none⟩ (.int .i64 er2)) := (Only.refl (· = R) _).setCell (p := ⟨R, 3, none⟩) (.inr rfl) _
      exact ⟨rfl, (oW.then_ (o4.mono fun i _ e => (show Wv R v i from .inl e)) fun i _ h => h), _, er2, oR3.put 3 _ (Nat.le_of_ble_eq_true rfl), .inr ⟨hner, er, rfl⟩⟩
    · clear h0
      have HPP := Lib.hid hpp
      clear hpp
      go_enter Tryz.func127, Tryz.ntmps127
      go_upto_region 2 with fail
      go_region_held3 (fun wx => wx.cell? ⟨Pb, 0, none⟩ = some (.func (.func f) #[] cap) ∧ wx.cell? ⟨X, 0, none⟩ = some (.pointer (some ⟨T, o, none⟩)) ∧ wx.cell? ⟨T, o, none⟩ = some (.bool n)) (first | exact ⟨q0, q1, q2⟩ | (go_keep)) ((go_at_fn f; (refine Calls.mono (HC.out _ HO.out.drew _ _ HD.out) ?_); rintro e w1 ⟨b1, ⟨bs', v2, hp, rfl, hE⟩ | ⟨er', er2, hp, hner, rfl⟩⟩; rotate_left; (exact absurd (HPP.out.symm.trans hp) (by simp)); (obtain rfl : bs = bs' := (by have := HPP.out.symm.trans hp; simpa using this)); (have HV := Lib.hid hE.rd); clear hE hp; (have hB1 : Below w.heap.size w w1 := bl_then (bl_drew (Below.refl _ w)) b1); (have hcx := (bcell hB1).1); (have q0 : w1.cell? ⟨Pb, 0, none⟩ = some (.func (.func f) #[] cap) := (hcx _ 0 hPl).trans hPb); (have q1 : w1.cell? ⟨X, 0, none⟩ = some (.pointer (some ⟨T, o, none⟩)) := (hcx _ 0 hXl).trans hX); (have q2 : w1.cell? ⟨T, o, none⟩ = some (.bool n) := (hcx _ o hTl).trans hu); (have oR := HR.out.trk hB1); (have HA1 := Lib.hid (HA.out.below hB1)); (have hR1s : w.heap.size ≤ w1.heap.size := hB1.size); clear hcx b1))
      clear h1 h2 h3 hX hPb hu
      have r0 : w1.cell? ⟨R, 0, none⟩ = some v := oR.2.1 0
      have fR0 : w1.frozen? ⟨R, 0, none⟩ = false := oR.2.2 0
      have hR1 := oR.1
      clear q0 q1 q2
      go_upto_region 4 with (at_builtin; refine wp_append_at (v := v) rfl _ _ rfl rfl rfl HA1.out HV.out (by have := HLn.out _ _ _ _ HD.out HPP.out; have := HAc.out; omega) ?_; intro v3 w2 o2 g2 b2; have oB : Only (fun i => v.ownBlock = some i) w1 w2 := ⟨g2.os, g2.tape, g2.output, g2.size, fun i hi hp => g2.block i hi (fun e => hp e.symm)⟩; have oR2 := oR.only oB (fun e => (HAi.out _ e).1 rfl); have oW1 : Only (Wv R v) w w2 := (Only.ne_ _ hB1).then_ (oB.mono fun i _ h => (show Wv R v i from .inr h)) (fun i _ h => h); have HO2 : Hid (Own2 w v v3) := b2.imp id (fun h g hg => by rw [h] at hg; injection hg with hg; omega); have HR3 : Hid (∀ g, v3.ownBlock = some g → ¬ g = R) := (fun g hg => by rcases b2 with b2 | b2; (· exact (HAi.out g (by rw [← b2]; exact hg)).1); (· rw [b2] at hg; injection hg with hg; omega)); obtain ⟨A3, n3, c3, rfl⟩ := o2.isSlice; have HA3 := Lib.hid o2; clear g2 b2 oB o2 oR r0 fR0 hR1 hB1 HA1 HV hR1s; have hR2 := oR2.1; have fR2 : w2.frozen? ⟨R, 0, none⟩ = false := oR2.2.2 0; have r2 : w2.cell? ⟨R, 0, none⟩ = some v := oR2.2.1 0)
      have o1 : Only (· = R) w2 (w2.setCell ⟨R, 0, none⟩ (.slice A3 n3 c3)) := (Only.refl (· = R) _).setCell (p := ⟨R, 0, none⟩) (.inr rfl) _
      have oR3 := oR2.put 0 (.slice A3 n3 c3) (Nat.le_of_ble_eq_true rfl)
      have oW := oW1.then_ (o1.mono fun i _ e => (show Wv R v i from .inl e)) (fun i _ h => h)
      have HA2 := Lib.hid (HA3.out.only o1 HR3.out)
      clear o1 oR2 oW1 HA3 hR2 fR2 r2
      generalize w2.setCell ⟨R, 0, none⟩ (.slice A3 n3 c3) = w3 at *
      have r3 : w3.cell? ⟨R, 3, none⟩ = some (.int .i64 0) := oR3.2.1 3
      have fR3 : w3.frozen? ⟨R, 3, none⟩ = false := oR3.2.2 3
      have hR3 := oR3.1
      go_wp2
      refine bodyPost_ret (results_none rfl _ _ _) rfl ?_
      have o4 : Only (· = R) w3 (w3.setCell ⟨R, 3, none⟩ (.int .i64 0)) := (Only.refl (· = R) _).setCell (p := ⟨R, 3, none⟩) (.inr rfl) _
      exact ⟨rfl, (oW.then_ (o4.mono fun i _ e => (show Wv R v i from .inl e)) fun i _ h => h), _, 0, oR3.put 3 _ (Nat.le_of_ble_eq_true rfl), .inl ⟨rfl, bs, rfl, HA2.out.only o4 HR3.out, HO2.out⟩⟩
end Go.Proofs.YtgmhapjidbdhnaaGreat
namespace Go.Proofs.YtgmhapjidbdhnaaGreat
open Go.RowKit
set_option maxRecDepth 100000 in
set_option maxHeartbeats 4000000 in
theorem ofB_wr {σ α : Type} {Rep : World → σ → Prop} {R : Nat} {Q : Nat → Prop} {w0 : World} {lo T o d : Nat} {fv gv pv : Value} {q : α → Except Int (List UInt8)} {D : World → α → Value → Prop} {get : σ → α}
    (hW : RepW Rep R Q w0) (hF : FldG Rep R T o D get) (hsh : OfShape 91 w0 lo fv gv pv T o) (hlo : ∀ i, lo ≤ i → i < w0.heap.size → ¬ Q i) (hg : Putter (Only Q w0) pv q D d)
    (hEv : ∀ w y u, D w y u → ∃ A n c, u = .slice A n c) :
    ∃ cap, fv = .func (.func 91) #[] cap ∧ WrPart Rep R Q w0 91 cap (fun s => q (get s)) d := by
  obtain ⟨X, G, Pb, rfl, a1, a2, a3, a4, a5, a6, c1, c2, c3⟩ := hsh.box
  refine ⟨_, rfl, fun args w => by kernel_rfl, fun w s bs hRep hq => ?_, fun w s v e ho hRep he hR => ?_, fun w s v acc ho hRep hR hA hAi hAc => ?_⟩
  · obtain ⟨u, _, hD⟩ := hF.has w s hRep
    exact hg.1 w _ u bs hD hq
  · have h3 : w.cell? ⟨R, 3, none⟩ = some (.int .i64 e) := hR.2.1 3
    have hRl := hR.1
    have he2 : ¬ e = 0 := he
    have HR := Lib.hid hR
    clear hR hRep ho he hEv hlo hF hW hg hsh c1 c2 c3
    show Calls Tryz.prog 91 #[.pointer (some ⟨R, 0, none⟩), .pointer (some ⟨Pb, 0, none⟩), .pointer (some ⟨X, 0, none⟩), .pointer (some ⟨G, 0, none⟩)] w _
    go_enter Tryz.func91, Tryz.ntmps91
    go_wp2
    refine bodyPost_ret (results_none rfl _ _ _) rfl ?_
    exact ⟨rfl, Only.refl _ _, HR.out⟩
  · have hX : w.cell? ⟨X, 0, none⟩ = some (.pointer (some ⟨T, o, none⟩)) := (ho.cell (a := ⟨X, 0, none⟩) a2 (hlo _ a1 a2)).trans c1
    have hPb : w.cell? ⟨Pb, 0, none⟩ = some pv := (ho.cell (a := ⟨Pb, 0, none⟩) a6 (hlo _ a5 a6)).trans c3
    have hXl : X < w.heap.size := Nat.lt_of_lt_of_le a2 ho.size
    have hPl : Pb < w.heap.size := Nat.lt_of_lt_of_le a6 ho.size
    have hTl : T < w.heap.size := hF.lt _ _ hRep
    obtain ⟨u, hu, hD⟩ := hF.has w.drew s (hW.new hRep (bl_drew (Below.refl _ _)))
    obtain ⟨A, n, c, rfl⟩ := hEv _ _ _ hD
    replace hu : w.cell? ⟨T, o, none⟩ = some (.slice A n c) := hu
    have h0 : w.cell? ⟨R, 0, none⟩ = some v := hR.2.1 0
    have h2 : w.cell? ⟨R, 2, none⟩ = some (.bool false) := hR.2.1 2
    have h3 : w.cell? ⟨R, 3, none⟩ = some (.int .i64 0) := hR.2.1 3
    have h1 : True := trivial
    have hRl := hR.1
    obtain ⟨hln, f, cap, rfl, eg, hcall⟩ := hg
    have eg2 : ∀ (args : Array Value) (wx : World), (callFunc f args).run Tryz.prog wx = .ok (.enter f args) wx := eg
    have HAc := Lib.hid hAc; have HA := Lib.hid hA; have HAi := Lib.hid hAi; have HLn := Lib.hid hln
    have HC := Lib.hid hcall; have HO := Lib.hid ho; have HW := Lib.hid hW; have HF := Lib.hid hF; have HRep := Lib.hid hRep
    have HR := Lib.hid hR; have HD := Lib.hid hD
    clear hA hAc hAi hln hcall ho hW hF hRep hR hD hEv eg hlo hsh c1 c2 c3 a1 a2 a3 a4 a5 a6
    show Calls Tryz.prog 91 #[.pointer (some ⟨R, 0, none⟩), .pointer (some ⟨Pb, 0, none⟩), .pointer (some ⟨X, 0, none⟩), .pointer (some ⟨G, 0, none⟩)] w _
    rcases hpp : q (get s) with er | bs
    · clear h0
      have HPP := Lib.hid hpp
      clear hpp
      go_enter Tryz.func91, Tryz.ntmps91
      go_upto_region 2 with fail
      go_region_held3 (fun wx => wx.cell? ⟨Pb, 0, none⟩ = some (.func (.func f) #[] cap) ∧ wx.cell? ⟨X, 0, none⟩ = some (.pointer (some ⟨T, o, none⟩)) ∧ wx.cell? ⟨T, o, none⟩ = some (.slice A n c)) (first | exact ⟨q0, q1, q2⟩ | (go_keep)) ((go_at_fn f; (refine Calls.mono (HC.out _ HO.out.drew _ _ HD.out) ?_); rintro e w1 ⟨b1, ⟨bs', v2, hp, rfl, hE⟩ | ⟨er', er2, hp, hner, rfl⟩⟩; (exact absurd (HPP.out.symm.trans hp) (by simp)); (have HV := Lib.hid (show Rd w1 (.slice none 0 0) [] from .inl ⟨rfl, rfl⟩)); clear hp; (have hB1 : Below w.heap.size w w1 := bl_then (bl_drew (Below.refl _ w)) b1); (have hcx := (bcell hB1).1); (have q0 : w1.cell? ⟨Pb, 0, none⟩ = some (.func (.func f) #[] cap) := (hcx _ 0 hPl).trans hPb); (have q1 : w1.cell? ⟨X, 0, none⟩ = some (.pointer (some ⟨T, o, none⟩)) := (hcx _ 0 hXl).trans hX); (have q2 : w1.cell? ⟨T, o, none⟩ = some (.slice A n c) := (hcx _ o hTl).trans hu); (have oR := HR.out.trk hB1); (have HA1 := Lib.hid (HA.out.below hB1)); (have hR1s : w.heap.size ≤ w1.heap.size := hB1.size); clear hcx b1))
      clear h1 h2 h3 hX hPb hu
      have r0 : w1.cell? ⟨R, 0, none⟩ = some v := oR.2.1 0
      have fR0 : w1.frozen? ⟨R, 0, none⟩ = false := oR.2.2 0
      have hR1 := oR.1
      clear q0 q1 q2
      go_upto_region 4 with (at_builtin; refine wp_append_at (v := v) rfl _ _ rfl rfl rfl HA1.out HV.out (by have := HAc.out; simp; omega) ?_; intro v3 w2 o2 g2 b2; have oB : Only (fun i => v.ownBlock = some i) w1 w2 := ⟨g2.os, g2.tape, g2.output, g2.size, fun i hi hp => g2.block i hi (fun e => hp e.symm)⟩; have oR2 := oR.only oB (fun e => (HAi.out _ e).1 rfl); have oW1 : Only (Wv R v) w w2 := (Only.ne_ _ hB1).then_ (oB.mono fun i _ h => (show Wv R v i from .inr h)) (fun i _ h => h); have HO2 : Hid (Own2 w v v3) := b2.imp id (fun h g hg => by rw [h] at hg; injection hg with hg; omega); have HR3 : Hid (∀ g, v3.ownBlock = some g → ¬ g = R) := (fun g hg => by rcases b2 with b2 | b2; (· exact (HAi.out g (by rw [← b2]; exact hg)).1); (· rw [b2] at hg; injection hg with hg; omega)); obtain ⟨A3, n3, c3, rfl⟩ := o2.isSlice; have HA3 := Lib.hid o2; clear g2 b2 oB o2 oR r0 fR0 hR1 hB1 HA1 HV hR1s; have hR2 := oR2.1; have fR2 : w2.frozen? ⟨R, 0, none⟩ = false := oR2.2.2 0; have r2 : w2.cell? ⟨R, 0, none⟩ = some v := oR2.2.1 0)
      have o1 : Only (· = R) w2 (w2.setCell ⟨R, 0, none⟩ (.slice A3 n3 c3)) := (Only.refl (· = R) _).setCell (p := ⟨R, 0, none⟩) (.inr rfl) _
      have oR3 := oR2.put 0 (.slice A3 n3 c3) (Nat.le_of_ble_eq_true rfl)
      have oW := oW1.then_ (o1.mono fun i _ e => (show Wv R v i from .inl e)) (fun i _ h => h)
      have HA2 := Lib.hid (HA3.out.only o1 HR3.out)
      clear o1 oR2 oW1 HA3 hR2 fR2 r2
      generalize w2.setCell ⟨R, 0, none⟩ (.slice A3 n3 c3) = w3 at *
      have r3 : w3.cell? ⟨R, 3, none⟩ = some (.int .i64 0) := oR3.2.1 3
      have fR3 : w3.frozen? ⟨R, 3, none⟩ = false := oR3.2.2 3
      have hR3 := oR3.1
      go_wp2
      refine bodyPost_ret (results_none rfl _ _ _) rfl ?_
      have o4 : Only (· = R) w3 (w3.setCell ⟨R, 3, none⟩ (.int .i64 er2)) := (Only.refl (· = R) _).setCell (p := ⟨R, 3, none⟩) (.inr rfl) _
      exact ⟨rfl, (oW.then_ (o4.mono fun i _ e => (show Wv R v i from .inl e)) fun i _ h => h), _, er2, oR3.put 3 _ (Nat.le_of_ble_eq_true rfl), .inr ⟨hner, er, rfl⟩⟩
    · clear h0
      have HPP := Lib.hid hpp
      clear hpp
      go_enter Tryz.func91, Tryz.ntmps91
      go_upto_region 2 with fail
      go_region_held3 (fun wx => wx.cell? ⟨Pb, 0, none⟩ = some (.func (.func f) #[] cap) ∧ wx.cell? ⟨X, 0, none⟩ = some (.pointer (some ⟨T, o, none⟩)) ∧ wx.cell? ⟨T, o, none⟩ = some (.slice A n c)) (first | exact ⟨q0, q1, q2⟩ | (go_keep)) ((go_at_fn f; (refine Calls.mono (HC.out _ HO.out.drew _ _ HD.out) ?_); rintro e w1 ⟨b1, ⟨bs', v2, hp, rfl, hE⟩ | ⟨er', er2, hp, hner, rfl⟩⟩; rotate_left; (exact absurd (HPP.out.symm.trans hp) (by simp)); (obtain rfl : bs = bs' := (by have := HPP.out.symm.trans hp; simpa using this)); (have HV := Lib.hid hE.rd); clear hE hp; (have hB1 : Below w.heap.size w w1 := bl_then (bl_drew (Below.refl _ w)) b1); (have hcx := (bcell hB1).1); (have q0 : w1.cell? ⟨Pb, 0, none⟩ = some (.func (.func f) #[] cap) := (hcx _ 0 hPl).trans hPb); (have q1 : w1.cell? ⟨X, 0, none⟩ = some (.pointer (some ⟨T, o, none⟩)) := (hcx _ 0 hXl).trans hX); (have q2 : w1.cell? ⟨T, o, none⟩ = some (.slice A n c) := (hcx _ o hTl).trans hu); (have oR := HR.out.trk hB1); (have HA1 := Lib.hid (HA.out.below hB1)); (have hR1s : w.heap.size ≤ w1.heap.size := hB1.size); clear hcx b1))
      clear h1 h2 h3 hX hPb hu
      have r0 : w1.cell? ⟨R, 0, none⟩ = some v := oR.2.1 0
      have fR0 : w1.frozen? ⟨R, 0, none⟩ = false := oR.2.2 0
      have hR1 := oR.1
      clear q0 q1 q2
      go_upto_region 4 with (at_builtin; refine wp_append_at (v := v) rfl _ _ rfl rfl rfl HA1.out HV.out (by have := HLn.out _ _ _ _ HD.out HPP.out; have := HAc.out; omega) ?_; intro v3 w2 o2 g2 b2; have oB : Only (fun i => v.ownBlock = some i) w1 w2 := ⟨g2.os, g2.tape, g2.output, g2.size, fun i hi hp => g2.block i hi (fun e => hp e.symm)⟩; have oR2 := oR.only oB (fun e => (HAi.out _ e).1 rfl); have oW1 : Only (Wv R v) w w2 := (Only.ne_ _ hB1).then_ (oB.mono fun i _ h => (show Wv R v i from .inr h)) (fun i _ h => h); have HO2 : Hid (Own2 w v v3) := b2.imp id (fun h g hg => by rw [h] at hg; injection hg with hg; omega); have HR3 : Hid (∀ g, v3.ownBlock = some g → ¬ g = R) := (fun g hg => by rcases b2 with b2 | b2; (· exact (HAi.out g (by rw [← b2]; exact hg)).1); (· rw [b2] at hg; injection hg with hg; omega)); obtain ⟨A3, n3, c3, rfl⟩ := o2.isSlice; have HA3 := Lib.hid o2; clear g2 b2 oB o2 oR r0 fR0 hR1 hB1 HA1 HV hR1s; have hR2 := oR2.1; have fR2 : w2.frozen? ⟨R, 0, none⟩ = false := oR2.2.2 0; have r2 : w2.cell? ⟨R, 0, none⟩ = some v := oR2.2.1 0)
      have o1 : Only (· = R) w2 (w2.setCell ⟨R, 0, none⟩ (.slice A3 n3 c3)) := (Only.refl (· = R) _).setCell (p := ⟨R, 0, none⟩) (.inr rfl) _
      have oR3 := oR2.put 0 (.slice A3 n3 c3) (Nat.le_of_ble_eq_true rfl)
      have oW := oW1.then_ (o1.mono fun i _ e => (show Wv R v i from .inl e)) (fun i _ h => h)
      have HA2 := Lib.hid (HA3.out.only o1 HR3.out)
      clear o1 oR2 oW1 HA3 hR2 fR2 r2
      generalize w2.setCell ⟨R, 0, none⟩ (.slice A3 n3 c3) = w3 at *
      have r3 : w3.cell? ⟨R, 3, none⟩ = some (.int .i64 0) := oR3.2.1 3
      have fR3 : w3.frozen? ⟨R, 3, none⟩ = false := oR3.2.2 3
      have hR3 := oR3.1
      go_wp2
      refine bodyPost_ret (results_none rfl _ _ _) rfl ?_
      have o4 : Only (· = R) w3 (w3.setCell ⟨R, 3, none⟩ (.int .i64 0)) := (Only.refl (· = R) _).setCell (p := ⟨R, 3, none⟩) (.inr rfl) _
      exact ⟨rfl, (oW.then_ (o4.mono fun i _ e => (show Wv R v i from .inl e)) fun i _ h => h), _, 0, oR3.put 3 _ (Nat.le_of_ble_eq_true rfl), .inl ⟨rfl, bs, rfl, HA2.out.only o4 HR3.out, HO2.out⟩⟩
end Go.Proofs.YtgmhapjidbdhnaaGreat
namespace Go.Proofs.YtgmhapjidbdhnaaGreat
open Go.RowKit
set_option maxRecDepth 100000 in
set_option maxHeartbeats 4000000 in
theorem ofS_wr {σ α : Type} {Rep : World → σ → Prop} {R : Nat} {Q : Nat → Prop} {w0 : World} {lo T o d : Nat} {fv gv pv : Value} {q : α → Except Int (List UInt8)} {D : World → α → Value → Prop} {get : σ → α}
    (hW : RepW Rep R Q w0) (hF : FldG Rep R T o D get) (hsh : OfShape 93 w0 lo fv gv pv T o) (hlo : ∀ i, lo ≤ i → i < w0.heap.size → ¬ Q i) (hg : Putter (Only Q w0) pv q D d)
    (hEv : ∀ w y u, D w y u → ∃ n, u = .string n) :
    ∃ cap, fv = .func (.func 93) #[] cap ∧ WrPart Rep R Q w0 93 cap (fun s => q (get s)) d := by
  obtain ⟨X, G, Pb, rfl, a1, a2, a3, a4, a5, a6, c1, c2, c3⟩ := hsh.box
  refine ⟨_, rfl, fun args w => by kernel_rfl, fun w s bs hRep hq => ?_, fun w s v e ho hRep he hR => ?_, fun w s v acc ho hRep hR hA hAi hAc => ?_⟩
  · obtain ⟨u, _, hD⟩ := hF.has w s hRep
    exact hg.1 w _ u bs hD hq
  · have h3 : w.cell? ⟨R, 3, none⟩ = some (.int .i64 e) := hR.2.1 3
    have hRl := hR.1
    have he2 : ¬ e = 0 := he
    have HR := Lib.hid hR
    clear hR hRep ho he hEv hlo hF hW hg hsh c1 c2 c3
    show Calls Tryz.prog 93 #[.pointer (some ⟨R, 0, none⟩), .pointer (some ⟨Pb, 0, none⟩), .pointer (some ⟨X, 0, none⟩), .pointer (some ⟨G, 0, none⟩)] w _
    go_enter Tryz.func93, Tryz.ntmps93
    go_wp2
    refine bodyPost_ret (results_none rfl _ _ _) rfl ?_
    exact ⟨rfl, Only.refl _ _, HR.out⟩
  · have hX : w.cell? ⟨X, 0, none⟩ = some (.pointer (some ⟨T, o, none⟩)) := (ho.cell (a := ⟨X, 0, none⟩) a2 (hlo _ a1 a2)).trans c1
    have hPb : w.cell? ⟨Pb, 0, none⟩ = some pv := (ho.cell (a := ⟨Pb, 0, none⟩) a6 (hlo _ a5 a6)).trans c3
    have hXl : X < w.heap.size := Nat.lt_of_lt_of_le a2 ho.size
    have hPl : Pb < w.heap.size := Nat.lt_of_lt_of_le a6 ho.size
    have hTl : T < w.heap.size := hF.lt _ _ hRep
    obtain ⟨u, hu, hD⟩ := hF.has w.drew s (hW.new hRep (bl_drew (Below.refl _ _)))
    obtain ⟨n, rfl⟩ := hEv _ _ _ hD
    replace hu : w.cell? ⟨T, o, none⟩ = some (.string n) := hu
    have h0 : w.cell? ⟨R, 0, none⟩ = some v := hR.2.1 0
    have h2 : w.cell? ⟨R, 2, none⟩ = some (.bool false) := hR.2.1 2
    have h3 : w.cell? ⟨R, 3, none⟩ = some (.int .i64 0) := hR.2.1 3
    have h1 : True := trivial
    have hRl := hR.1
    obtain ⟨hln, f, cap, rfl, eg, hcall⟩ := hg
    have eg2 : ∀ (args : Array Value) (wx : World), (callFunc f args).run Tryz.prog wx = .ok (.enter f args) wx := eg
    have HAc := Lib.hid hAc; have HA := Lib.hid hA; have HAi := Lib.hid hAi; have HLn := Lib.hid hln
    have HC := Lib.hid hcall; have HO := Lib.hid ho; have HW := Lib.hid hW; have HF := Lib.hid hF; have HRep := Lib.hid hRep
    have HR := Lib.hid hR; have HD := Lib.hid hD
    clear hA hAc hAi hln hcall ho hW hF hRep hR hD hEv eg hlo hsh c1 c2 c3 a1 a2 a3 a4 a5 a6
    show Calls Tryz.prog 93 #[.pointer (some ⟨R, 0, none⟩), .pointer (some ⟨Pb, 0, none⟩), .pointer (some ⟨X, 0, none⟩), .pointer (some ⟨G, 0, none⟩)] w _
    rcases hpp : q (get s) with er | bs
    · clear h0
      have HPP := Lib.hid hpp
      clear hpp
      go_enter Tryz.func93, Tryz.ntmps93
      go_upto_region 2 with fail
      go_region_held3 (fun wx => wx.cell? ⟨Pb, 0, none⟩ = some (.func (.func f) #[] cap) ∧ wx.cell? ⟨X, 0, none⟩ = some (.pointer (some ⟨T, o, none⟩)) ∧ wx.cell? ⟨T, o, none⟩ = some (.string n)) (first | exact ⟨q0, q1, q2⟩ | (go_keep)) ((go_at_fn f; (refine Calls.mono (HC.out _ HO.out.drew _ _ HD.out) ?_); rintro e w1 ⟨b1, ⟨bs', v2, hp, rfl, hE⟩ | ⟨er', er2, hp, hner, rfl⟩⟩; (exact absurd (HPP.out.symm.trans hp) (by simp)); (have HV := Lib.hid (show Rd w1 (.slice none 0 0) [] from .inl ⟨rfl, rfl⟩)); clear hp; (have hB1 : Below w.heap.size w w1 := bl_then (bl_drew (Below.refl _ w)) b1); (have hcx := (bcell hB1).1); (have q0 : w1.cell? ⟨Pb, 0, none⟩ = some (.func (.func f) #[] cap) := (hcx _ 0 hPl).trans hPb); (have q1 : w1.cell? ⟨X, 0, none⟩ = some (.pointer (some ⟨T, o, none⟩)) := (hcx _ 0 hXl).trans hX); (have q2 : w1.cell? ⟨T, o, none⟩ = some (.string n) := (hcx _ o hTl).trans hu); (have oR := HR.out.trk hB1); (have HA1 := Lib.hid (HA.out.below hB1)); (have hR1s : w.heap.size ≤ w1.heap.size := hB1.size); clear hcx b1))
      clear h1 h2 h3 hX hPb hu
      have r0 : w1.cell? ⟨R, 0, none⟩ = some v := oR.2.1 0
      have fR0 : w1.frozen? ⟨R, 0, none⟩ = false := oR.2.2 0
      have hR1 := oR.1
      clear q0 q1 q2
      go_upto_region 4 with (at_builtin; refine wp_append_at (v := v) rfl _ _ rfl rfl rfl HA1.out HV.out (by have := HAc.out; simp; omega) ?_; intro v3 w2 o2 g2 b2; have oB : Only (fun i => v.ownBlock = some i) w1 w2 := ⟨g2.os, g2.tape, g2.output, g2.size, fun i hi hp => g2.block i hi (fun e => hp e.symm)⟩; have oR2 := oR.only oB (fun e => (HAi.out _ e).1 rfl); have oW1 : Only (Wv R v) w w2 := (Only.ne_ _ hB1).then_ (oB.mono fun i _ h => (show Wv R v i from .inr h)) (fun i _ h => h); have HO2 : Hid (Own2 w v v3) := b2.imp id (fun h g hg => by rw [h] at hg; injection hg with hg; omega); have HR3 : Hid (∀ g, v3.ownBlock = some g → ¬ g = R) := (fun g hg => by rcases b2 with b2 | b2; (· exact (HAi.out g (by rw [← b2]; exact hg)).1); (· rw [b2] at hg; injection hg with hg; omega)); obtain ⟨A3, n3, c3, rfl⟩ := o2.isSlice; have HA3 := Lib.hid o2; clear g2 b2 oB o2 oR r0 fR0 hR1 hB1 HA1 HV hR1s; have hR2 := oR2.1; have fR2 : w2.frozen? ⟨R, 0, none⟩ = false := oR2.2.2 0; have r2 : w2.cell? ⟨R, 0, none⟩ = some v := oR2.2.1 0)
      have o1 : Only (· = R) w2 (w2.setCell ⟨R, 0, none⟩ (.slice A3 n3 c3)) := (Only.refl (· = R) _).setCell (p := ⟨R, 0, none⟩) (.inr rfl) _
      have oR3 := oR2.put 0 (.slice A3 n3 c3) (Nat.le_of_ble_eq_true rfl)
      have oW := oW1.then_ (o1.mono fun i _ e => (show Wv R v i from .inl e)) (fun i _ h => h)
      have HA2 := Lib.hid (HA3.out.only o1 HR3.out)
      clear o1 oR2 oW1 HA3 hR2 fR2 r2
      generalize w2.setCell ⟨R, 0, none⟩ (.slice A3 n3 c3) = w3 at *
      have r3 : w3.cell? ⟨R, 3, none⟩ = some (.int .i64 0) := oR3.2.1 3
      have fR3 : w3.frozen? ⟨R, 3, none⟩ = false := oR3.2.2 3
      have hR3 := oR3.1
      go_wp2
      refine bodyPost_ret (results_none rfl _ _ _) rfl ?_
      have o4 : Only (· = R) w3 (w3.setCell ⟨R, 3, none⟩ (.int .i64 er2)) := (Only.refl (· = R) _).setCell (p := ⟨R, 3, none⟩) (.inr rfl) _
      exact ⟨rfl, (oW.then_ (o4.mono fun i _ e => (show Wv R v i from .inl e)) fun i _ h => h), _, er2, oR3.put 3 _ (Nat.le_of_ble_eq_true rfl), .inr ⟨hner, er, rfl⟩⟩
    · clear h0
      have HPP := Lib.hid hpp
      clear hpp
      go_enter Tryz.func93, Tryz.ntmps93
      go_upto_region 2 with fail
      go_region_held3 (fun wx => wx.cell? ⟨Pb, 0, none⟩ = some (.func (.func f) #[] cap) ∧ wx.cell? ⟨X, 0, none⟩ = some (.pointer (some ⟨T, o, none⟩)) ∧ wx.cell? ⟨T, o, none⟩ = some (.string n)) (first | exact ⟨q0, q1, q2⟩ | (go_keep)) ((go_at_fn f; (refine Calls.mono (HC.out _ HO.out.drew _ _ HD.out) ?_); rintro e w1 ⟨b1, ⟨bs', v2, hp, rfl, hE⟩ | ⟨er', er2, hp, hner, rfl⟩⟩; rotate_left; (exact absurd (HPP.out.symm.trans hp) (by simp)); (obtain rfl : bs = bs' := (by have := HPP.out.symm.trans hp; simpa using this)); (have HV := Lib.hid hE.rd); clear hE hp; (have hB1 : Below w.heap.size w w1 := bl_then (bl_drew (Below.refl _ w)) b1); (have hcx := (bcell hB1).1); (have q0 : w1.cell? ⟨Pb, 0, none⟩ = some (.func (.func f) #[] cap) := (hcx _ 0 hPl).trans hPb); (have q1 : w1.cell? ⟨X, 0, none⟩ = some (.pointer (some ⟨T, o, none⟩)) := (hcx _ 0 hXl).trans hX); (have q2 : w1.cell? ⟨T, o, none⟩ = some (.string n) := (hcx _ o hTl).trans hu); (have oR := HR.out.trk hB1); (have HA1 := Lib.hid (HA.out.below hB1)); (have hR1s : w.heap.size ≤ w1.heap.size := hB1.size); clear hcx b1))
      clear h1 h2 h3 hX hPb hu
      have r0 : w1.cell? ⟨R, 0, none⟩ = some v := oR.2.1 0
      have fR0 : w1.frozen? ⟨R, 0, none⟩ = false := oR.2.2 0
      have hR1 := oR.1
      clear q0 q1 q2
      go_upto_region 4 with (at_builtin; refine wp_append_at (v := v) rfl _ _ rfl rfl rfl HA1.out HV.out (by have := HLn.out _ _ _ _ HD.out HPP.out; have := HAc.out; omega) ?_; intro v3 w2 o2 g2 b2; have oB : Only (fun i => v.ownBlock = some i) w1 w2 := ⟨g2.os, g2.tape, g2.output, g2.size, fun i hi hp => g2.block i hi (fun e => hp e.symm)⟩; have oR2 := oR.only oB (fun e => (HAi.out _ e).1 rfl); have oW1 : Only (Wv R v) w w2 := (Only.ne_ _ hB1).then_ (oB.mono fun i _ h => (show Wv R v i from .inr h)) (fun i _ h => h); have HO2 : Hid (Own2 w v v3) := b2.imp id (fun h g hg => by rw [h] at hg; injection hg with hg; omega); have HR3 : Hid (∀ g, v3.ownBlock = some g → ¬ g = R) := (fun g hg => by rcases b2 with b2 | b2; (· exact (HAi.out g (by rw [← b2]; exact hg)).1); (· rw [b2] at hg; injection hg with hg; omega)); obtain ⟨A3, n3, c3, rfl⟩ := o2.isSlice; have HA3 := Lib.hid o2; clear g2 b2 oB o2 oR r0 fR0 hR1 hB1 HA1 HV hR1s; have hR2 := oR2.1; have fR2 : w2.frozen? ⟨R, 0, none⟩ = false := oR2.2.2 0; have r2 : w2.cell? ⟨R, 0, none⟩ = some v := oR2.2.1 0)
      have o1 : Only (· = R) w2 (w2.setCell ⟨R, 0, none⟩ (.slice A3 n3 c3)) := (Only.refl (· = R) _).setCell (p := ⟨R, 0, none⟩) (.inr rfl) _
      have oR3 := oR2.put 0 (.slice A3 n3 c3) (Nat.le_of_ble_eq_true rfl)
      have oW := oW1.then_ (o1.mono fun i _ e => (show Wv R v i from .inl e)) (fun i _ h => h)
      have HA2 := Lib.hid (HA3.out.only o1 HR3.out)
      clear o1 oR2 oW1 HA3 hR2 fR2 r2
      generalize w2.setCell ⟨R, 0, none⟩ (.slice A3 n3 c3) = w3 at *
      have r3 : w3.cell? ⟨R, 3, none⟩ = some (.int .i64 0) := oR3.2.1 3
      have fR3 : w3.frozen? ⟨R, 3, none⟩ = false := oR3.2.2 3
      have hR3 := oR3.1
      go_wp2
      refine bodyPost_ret (results_none rfl _ _ _) rfl ?_
      have o4 : Only (· = R) w3 (w3.setCell ⟨R, 3, none⟩ (.int .i64 0)) := (Only.refl (· = R) _).setCell (p := ⟨R, 3, none⟩) (.inr rfl) _
      exact ⟨rfl, (oW.then_ (o4.mono fun i _ e => (show Wv R v i from .inl e)) fun i _ h => h), _, 0, oR3.put 3 _ (Nat.le_of_ble_eq_true rfl), .inl ⟨rfl, bs, rfl, HA2.out.only o4 HR3.out, HO2.out⟩⟩
end Go.Proofs.YtgmhapjidbdhnaaGreat

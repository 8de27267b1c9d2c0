/- parts.of over string: what the part does when it reads. -/
import Derived.Test.YtgmhapjidbdhnaaGreatJI
import Derived.Deep.RegionHeld2
set_option linter.unusedVariables false
set_option linter.unusedSimpArgs false
namespace Go.Proofs.YtgmhapjidbdhnaaGreat
open Go.RowKit
set_option maxRecDepth 100000 in
set_option maxHeartbeats 4000000 in
theorem of32_rd {σ α : Type} {Rep : World → σ → Prop} {R : Nat} {P : Nat → Prop} {w0 : World} {lo T o : Nat} {fv gv pv : Value} {p : Ps α} {E : Nat → World → α → Value → Prop} {set : α → σ → σ}
    (hS : RepR Rep R P) (hF : FldS Rep R P T o E set) (hsh : OfShape 120 w0 lo fv gv pv T o) (hlo : ∀ i, lo ≤ i → i < w0.heap.size → ¬ P i) (hg : Getter (Only P w0) gv p E)
    (hE : ∀ base w1 w2 y u, E base w1 y u → Only (fun i => i < base) w1 w2 → E base w2 y u) (hEv : ∀ base w y u, E base w y u → ∃ n : Int, u = .int .u32 n) :
    ∃ cap, fv = .func (.func 120) #[] cap ∧ RdPart Rep R P w0 120 cap (fun s => Ps.bind p fun y => Ps.pure (set y s)) := by
  obtain ⟨X, G, Pb, rfl, a1, a2, a3, a4, a5, a6, c1, c2, c3⟩ := hsh.box
  refine ⟨_, rfl, fun args w => by kernel_rfl, fun w s v k e ho hRep he hR => ?_, fun w s v k xs ho hRep hR hb hv hk hx => ?_⟩
  · have h3 : w.cell? ⟨R, 3, none⟩ = some (.int .i64 e) := hR.2.1 3
    have hRl := hR.1
    have he2 : ¬ e = 0 := he
    have HR := Lib.hid hR; have HRep := Lib.hid hRep
    clear hR hRep ho he hE hEv hlo hF hS hg hsh c1 c2 c3
    show Calls Tryz.prog 120 #[.pointer (some ⟨R, 0, none⟩), .pointer (some ⟨Pb, 0, none⟩), .pointer (some ⟨X, 0, none⟩), .pointer (some ⟨G, 0, none⟩)] w _
    go_enter Tryz.func120, Tryz.ntmps120
    go_wp2
    refine bodyPost_ret (results_none rfl _ _ _) rfl ?_
    exact ⟨rfl, Only.refl _ _, HR.out, _, HRep.out⟩
  · have hX : w.cell? ⟨X, 0, none⟩ = some (.pointer (some ⟨T, o, none⟩)) := (ho.cell (a := ⟨X, 0, none⟩) a2 (hlo _ a1 a2)).trans c1
    have hG : w.cell? ⟨G, 0, none⟩ = some gv := (ho.cell (a := ⟨G, 0, none⟩) a4 (hlo _ a3 a4)).trans c2
    have hXl : X < w.heap.size := Nat.lt_of_lt_of_le a2 ho.size
    have hGl : G < w.heap.size := Nat.lt_of_lt_of_le a4 ho.size
    have hXR : ¬ X = R := fun e => hlo _ a1 a2 (e ▸ hS.inR)
    have hPs : ∀ i, P i → i < w.heap.size := fun i hi => by
      by_cases hi2 : i = R
      · rw [hi2]; exact hR.1
      · exact hS.old _ _ hRep i hi hi2
    have h0 : w.cell? ⟨R, 0, none⟩ = some v := hR.2.1 0
    have h1 : w.cell? ⟨R, 1, none⟩ = some (.int .i64 k) := hR.2.1 1
    have h2 : w.cell? ⟨R, 2, none⟩ = some (.bool true) := hR.2.1 2
    have h3 : w.cell? ⟨R, 3, none⟩ = some (.int .i64 0) := hR.2.1 3
    have hRl := hR.1
    obtain ⟨f, cap, rfl, eg, hcall⟩ := hg
    have eg2 : ∀ (args : Array Value) (wx : World), (callFunc f args).run Tryz.prog wx = .ok (.enter f args) wx := eg
    obtain ⟨v', hb', hsl⟩ := hb.suffix hk
    have HB := Lib.hid hb'; have HX := Lib.hid hx; have HK := Lib.hid hk; have HPs := Lib.hid hPs
    have HC := Lib.hid hcall; have HO := Lib.hid ho; have HS := Lib.hid hS; have HF := Lib.hid hF; have HRep := Lib.hid hRep
    have HR := Lib.hid hR; have HE := Lib.hid hE; have HEv := Lib.hid hEv
    have hne := hF.ne; have hTP := hF.inP; have hRP := hS.inR
    clear hb hb' hk hx hv hPs hcall ho hS hF hRep hR hE hEv eg hlo hsh c1 c2 c3 a1 a2 a3 a4 a5 a6
    show Calls Tryz.prog 120 #[.pointer (some ⟨R, 0, none⟩), .pointer (some ⟨Pb, 0, none⟩), .pointer (some ⟨X, 0, none⟩), .pointer (some ⟨G, 0, none⟩)] w _
    rcases hpp : p (xs.drop k) with er | ⟨y, j⟩
    · have HPP := Lib.hid hpp
      clear hpp
      go_enter Tryz.func120, Tryz.ntmps120
      go_upto_region 5 with fail
      go_region_held3 (fun wx => wx.cell? ⟨G, 0, none⟩ = some (.func (.func f) #[] cap) ∧ wx.cell? ⟨R, 0, none⟩ = some v ∧ wx.cell? ⟨R, 1, none⟩ = some (.int .i64 k)) (first | exact ⟨q0, q1, q2⟩ | (go_keep)) ((go_at_fn f; (refine Calls.mono (HC.out _ HO.out.drew _ _ (HB.out.below (bl_drew (Below.refl _ _))) (by rw [List.length_drop]; have := HX.out; omega)) ?_); rintro e w1 ⟨b1, ⟨y', j', u, hp, hj, rfl, hE⟩ | ⟨er', u, n, hp, hner, rfl⟩⟩; (exact absurd (HPP.out.symm.trans hp) (by simp)); (obtain rfl : er = er' := (by have := HPP.out.symm.trans hp; simpa using this)); clear hp; (have hB1 : Below w.heap.size w w1 := bl_then (bl_drew (Below.refl _ w)) b1); (have hcx := (bcell hB1).1); (have q0 : w1.cell? ⟨G, 0, none⟩ = some (.func (.func f) #[] cap) := (hcx _ 0 hGl).trans hG); (have q1 : w1.cell? ⟨R, 0, none⟩ = some v := (hcx _ 0 hRl).trans h0); (have q2 : w1.cell? ⟨R, 1, none⟩ = some (.int .i64 k) := (hcx _ 1 hRl).trans h1); (have q3 : w1.cell? ⟨X, 0, none⟩ = some (.pointer (some ⟨T, o, none⟩)) := (hcx _ 0 hXl).trans hX); (have oR := HR.out.trk hB1); (have HRep1 := Lib.hid (HS.out.frR _ _ _ HRep.out (Only.ne_ _ hB1))); clear hcx b1))
      have r3 : w1.cell? ⟨R, 3, none⟩ = some (.int .i64 0) := oR.2.1 3
      have fR3 : w1.frozen? ⟨R, 3, none⟩ = false := oR.2.2 3
      have hR1 := oR.1
      go_wp2
      go_end0
      have o1 : Only (· = R) w1 (w1.setCell ⟨R, 3, none⟩ (.int .i64 er)) := (Only.refl (· = R) _).setCell (p := ⟨R, 3, none⟩) (.inr rfl) _
      refine ⟨rfl, (Only.ne_ P hB1).then_ o1 (fun i _ e => by rw [e]; exact hRP), s, k, er, oR.put 3 _ (Nat.le_of_ble_eq_true rfl), HS.out.frR _ _ _ HRep1.out o1, .inr ⟨?_, hner⟩⟩
      rw [Ps.bind_error HPP.out]
    · have HPP := Lib.hid hpp
      clear hpp
      go_enter Tryz.func120, Tryz.ntmps120
      go_upto_region 5 with fail
      go_region_held3 (fun wx => wx.cell? ⟨G, 0, none⟩ = some (.func (.func f) #[] cap) ∧ wx.cell? ⟨R, 0, none⟩ = some v ∧ wx.cell? ⟨R, 1, none⟩ = some (.int .i64 k)) (first | exact ⟨q0, q1, q2⟩ | (go_keep)) ((go_at_fn f; (refine Calls.mono (HC.out _ HO.out.drew _ _ (HB.out.below (bl_drew (Below.refl _ _))) (by rw [List.length_drop]; have := HX.out; omega)) ?_); rintro e w1 ⟨b1, ⟨y', j', u, hp, hj, rfl, hE⟩ | ⟨er', u, n, hp, hner, rfl⟩⟩; rotate_left; (exact absurd (HPP.out.symm.trans hp) (by simp)); (obtain ⟨rfl, rfl⟩ : y = y' ∧ j = j' := (by have := HPP.out.symm.trans hp; simpa using this)); (have HE1 := Lib.hid hE); clear hE hp; (have hB1 : Below w.heap.size w w1 := bl_then (bl_drew (Below.refl _ w)) b1); (have hcx := (bcell hB1).1); (have q0 : w1.cell? ⟨G, 0, none⟩ = some (.func (.func f) #[] cap) := (hcx _ 0 hGl).trans hG); (have q1 : w1.cell? ⟨R, 0, none⟩ = some v := (hcx _ 0 hRl).trans h0); (have q2 : w1.cell? ⟨R, 1, none⟩ = some (.int .i64 k) := (hcx _ 1 hRl).trans h1); (have q3 : w1.cell? ⟨X, 0, none⟩ = some (.pointer (some ⟨T, o, none⟩)) := (hcx _ 0 hXl).trans hX); (have oR := HR.out.trk hB1); (have HRep1 := Lib.hid (HS.out.frR _ _ _ HRep.out (Only.ne_ _ hB1))); clear hcx b1))
      obtain ⟨n, rfl⟩ := HEv.out _ _ _ _ HE1.out
      have r3 : w1.cell? ⟨R, 3, none⟩ = some (.int .i64 0) := oR.2.1 3
      have fR3 : w1.frozen? ⟨R, 3, none⟩ = false := oR.2.2 3
      have hR1 := oR.1
      go_upto_region 8 with fail
      have o1 : Only (· = R) w1 (w1.setCell ⟨R, 3, none⟩ (.int .i64 0)) := (Only.refl (· = R) _).setCell (p := ⟨R, 3, none⟩) (.inr rfl) _
      have oR2 := oR.put 3 (.int .i64 0) (Nat.le_of_ble_eq_true rfl)
      have q4 : (w1.setCell ⟨R, 3, none⟩ (.int .i64 0)).cell? ⟨X, 0, none⟩ = some (.pointer (some ⟨T, o, none⟩)) := (o1.cell (a := ⟨X, 0, none⟩) (Nat.lt_of_lt_of_le hXl hB1.size) hXR).trans q3
      have oW : Only P w (w1.setCell ⟨R, 3, none⟩ (.int .i64 0)) := (Only.ne_ P hB1).then_ o1 (fun i _ e => by rw [e]; exact hRP)
      have HE2 := Lib.hid (HE.out _ _ _ _ _ HE1.out (o1.mono fun i _ e => by rw [e]; exact hRl))
      have HRep2 := Lib.hid (HS.out.frR _ _ _ HRep1.out o1)
      clear o1 r3 fR3 hR1 oR q0 q1 q2 q3 HE1 HRep1 hB1
      generalize w1.setCell ⟨R, 3, none⟩ (.int .i64 0) = w2 at *
      obtain ⟨hT1, ⟨t0, ht0⟩, fT⟩ := HF.out.has _ _ HRep2.out
      clear h0 h1 h2 h3 hG hX
      go_upto_region 9 with fail
      have o1 : Only (· = T) w2 (w2.setCell ⟨T, o, none⟩ (.int .u32 n)) := (Only.refl (· = T) _).setCell (p := ⟨T, o, none⟩) (.inr rfl) _
      have oR3 := oR2.only o1 (fun e => hne e.symm)
      have oW3 : Only P w (w2.setCell ⟨T, o, none⟩ (.int .u32 n)) := oW.then_ o1 (fun i _ e => by rw [e]; exact hTP)
      have HRep3 := Lib.hid (HF.out.put _ _ _ _ _ HRep2.out HE2.out HPs.out)
      clear o1 oR2 q4 oW HE2 HRep2 fT hT1 ht0
      generalize w2.setCell ⟨T, o, none⟩ (.int .u32 n) = w3 at *
      have r1 : w3.cell? ⟨R, 1, none⟩ = some (.int .i64 k) := oR3.2.1 1
      have fR1 : w3.frozen? ⟨R, 1, none⟩ = false := oR3.2.2 1
      have hR3 := oR3.1
      have hw := w64_at (k := k) (j := j) (Nat.le_trans HK.out HX.out) (by rw [List.length_drop] at hj; have := HX.out; omega)
      go_wp2
      go_end0
      have o4 : Only (· = R) w3 (w3.setCell ⟨R, 1, none⟩ (.int .i64 ((k + j : Nat) : Int))) := (Only.refl (· = R) _).setCell (p := ⟨R, 1, none⟩) (.inr rfl) _
      refine ⟨rfl, oW3.then_ o4 (fun i _ e => by rw [e]; exact hRP), set y s, k + j, 0, oR3.put 1 _ (Nat.le_of_ble_eq_true rfl), HS.out.frR _ _ _ HRep3.out o4, .inl ⟨j, ?_, rfl, ?_, rfl⟩⟩
      · rw [Ps.bind_ok_ok HPP.out (x := set y s) (m := 0) rfl]; rfl
      · rw [List.length_drop] at hj; have := HK.out; omega
end Go.Proofs.YtgmhapjidbdhnaaGreat
namespace Go.Proofs.YtgmhapjidbdhnaaGreat
open Go.RowKit
set_option maxRecDepth 100000 in
set_option maxHeartbeats 4000000 in
theorem of64_rd {σ α : Type} {Rep : World → σ → Prop} {R : Nat} {P : Nat → Prop} {w0 : World} {lo T o : Nat} {fv gv pv : Value} {p : Ps α} {E : Nat → World → α → Value → Prop} {set : α → σ → σ}
    (hS : RepR Rep R P) (hF : FldS Rep R P T o E set) (hsh : OfShape 119 w0 lo fv gv pv T o) (hlo : ∀ i, lo ≤ i → i < w0.heap.size → ¬ P i) (hg : Getter (Only P w0) gv p E)
    (hE : ∀ base w1 w2 y u, E base w1 y u → Only (fun i => i < base) w1 w2 → E base w2 y u) (hEv : ∀ base w y u, E base w y u → ∃ n : Int, u = .int .u64 n) :
    ∃ cap, fv = .func (.func 119) #[] cap ∧ RdPart Rep R P w0 119 cap (fun s => Ps.bind p fun y => Ps.pure (set y s)) := by
  obtain ⟨X, G, Pb, rfl, a1, a2, a3, a4, a5, a6, c1, c2, c3⟩ := hsh.box
  refine ⟨_, rfl, fun args w => by kernel_rfl, fun w s v k e ho hRep he hR => ?_, fun w s v k xs ho hRep hR hb hv hk hx => ?_⟩
  · have h3 : w.cell? ⟨R, 3, none⟩ = some (.int .i64 e) := hR.2.1 3
    have hRl := hR.1
    have he2 : ¬ e = 0 := he
    have HR := Lib.hid hR; have HRep := Lib.hid hRep
    clear hR hRep ho he hE hEv hlo hF hS hg hsh c1 c2 c3
    show Calls Tryz.prog 119 #[.pointer (some ⟨R, 0, none⟩), .pointer (some ⟨Pb, 0, none⟩), .pointer (some ⟨X, 0, none⟩), .pointer (some ⟨G, 0, none⟩)] w _
    go_enter Tryz.func119, Tryz.ntmps119
    go_wp2
    refine bodyPost_ret (results_none rfl _ _ _) rfl ?_
    exact ⟨rfl, Only.refl _ _, HR.out, _, HRep.out⟩
  · have hX : w.cell? ⟨X, 0, none⟩ = some (.pointer (some ⟨T, o, none⟩)) := (ho.cell (a := ⟨X, 0, none⟩) a2 (hlo _ a1 a2)).trans c1
    have hG : w.cell? ⟨G, 0, none⟩ = some gv := (ho.cell (a := ⟨G, 0, none⟩) a4 (hlo _ a3 a4)).trans c2
    have hXl : X < w.heap.size := Nat.lt_of_lt_of_le a2 ho.size
    have hGl : G < w.heap.size := Nat.lt_of_lt_of_le a4 ho.size
    have hXR : ¬ X = R := fun e => hlo _ a1 a2 (e ▸ hS.inR)
    have hPs : ∀ i, P i → i < w.heap.size := fun i hi => by
      by_cases hi2 : i = R
      · rw [hi2]; exact hR.1
      · exact hS.old _ _ hRep i hi hi2
    have h0 : w.cell? ⟨R, 0, none⟩ = some v := hR.2.1 0
    have h1 : w.cell? ⟨R, 1, none⟩ = some (.int .i64 k) := hR.2.1 1
    have h2 : w.cell? ⟨R, 2, none⟩ = some (.bool true) := hR.2.1 2
    have h3 : w.cell? ⟨R, 3, none⟩ = some (.int .i64 0) := hR.2.1 3
    have hRl := hR.1
    obtain ⟨f, cap, rfl, eg, hcall⟩ := hg
    have eg2 : ∀ (args : Array Value) (wx : World), (callFunc f args).run Tryz.prog wx = .ok (.enter f args) wx := eg
    obtain ⟨v', hb', hsl⟩ := hb.suffix hk
    have HB := Lib.hid hb'; have HX := Lib.hid hx; have HK := Lib.hid hk; have HPs := Lib.hid hPs
    have HC := Lib.hid hcall; have HO := Lib.hid ho; have HS := Lib.hid hS; have HF := Lib.hid hF; have HRep := Lib.hid hRep
    have HR := Lib.hid hR; have HE := Lib.hid hE; have HEv := Lib.hid hEv
    have hne := hF.ne; have hTP := hF.inP; have hRP := hS.inR
    clear hb hb' hk hx hv hPs hcall ho hS hF hRep hR hE hEv eg hlo hsh c1 c2 c3 a1 a2 a3 a4 a5 a6
    show Calls Tryz.prog 119 #[.pointer (some ⟨R, 0, none⟩), .pointer (some ⟨Pb, 0, none⟩), .pointer (some ⟨X, 0, none⟩), .pointer (some ⟨G, 0, none⟩)] w _
    rcases hpp : p (xs.drop k) with er | ⟨y, j⟩
    · have HPP := Lib.hid hpp
      clear hpp
      go_enter Tryz.func119, Tryz.ntmps119
      go_upto_region 5 with fail
      go_region_held3 (fun wx => wx.cell? ⟨G, 0, none⟩ = some (.func (.func f) #[] cap) ∧ wx.cell? ⟨R, 0, none⟩ = some v ∧ wx.cell? ⟨R, 1, none⟩ = some (.int .i64 k)) (first | exact ⟨q0, q1, q2⟩ | (go_keep)) ((go_at_fn f; (refine Calls.mono (HC.out _ HO.out.drew _ _ (HB.out.below (bl_drew (Below.refl _ _))) (by rw [List.length_drop]; have := HX.out; omega)) ?_); rintro e w1 ⟨b1, ⟨y', j', u, hp, hj, rfl, hE⟩ | ⟨er', u, n, hp, hner, rfl⟩⟩; (exact absurd (HPP.out.symm.trans hp) (by simp)); (obtain rfl : er = er' := (by have := HPP.out.symm.trans hp; simpa using this)); clear hp; (have hB1 : Below w.heap.size w w1 := bl_then (bl_drew (Below.refl _ w)) b1); (have hcx := (bcell hB1).1); (have q0 : w1.cell? ⟨G, 0, none⟩ = some (.func (.func f) #[] cap) := (hcx _ 0 hGl).trans hG); (have q1 : w1.cell? ⟨R, 0, none⟩ = some v := (hcx _ 0 hRl).trans h0); (have q2 : w1.cell? ⟨R, 1, none⟩ = some (.int .i64 k) := (hcx _ 1 hRl).trans h1); (have q3 : w1.cell? ⟨X, 0, none⟩ = some (.pointer (some ⟨T, o, none⟩)) := (hcx _ 0 hXl).trans hX); (have oR := HR.out.trk hB1); (have HRep1 := Lib.hid (HS.out.frR _ _ _ HRep.out (Only.ne_ _ hB1))); clear hcx b1))
      have r3 : w1.cell? ⟨R, 3, none⟩ = some (.int .i64 0) := oR.2.1 3
      have fR3 : w1.frozen? ⟨R, 3, none⟩ = false := oR.2.2 3
      have hR1 := oR.1
      go_wp2
      go_end0
      have o1 : Only (· = R) w1 (w1.setCell ⟨R, 3, none⟩ (.int .i64 er)) := (Only.refl (· = R) _).setCell (p := ⟨R, 3, none⟩) (.inr rfl) _
      refine ⟨rfl, (Only.ne_ P hB1).then_ o1 (fun i _ e => by rw [e]; exact hRP), s, k, er, oR.put 3 _ (Nat.le_of_ble_eq_true rfl), HS.out.frR _ _ _ HRep1.out o1, .inr ⟨?_, hner⟩⟩
      rw [Ps.bind_error HPP.out]
    · have HPP := Lib.hid hpp
      clear hpp
      go_enter Tryz.func119, Tryz.ntmps119
      go_upto_region 5 with fail
      go_region_held3 (fun wx => wx.cell? ⟨G, 0, none⟩ = some (.func (.func f) #[] cap) ∧ wx.cell? ⟨R, 0, none⟩ = some v ∧ wx.cell? ⟨R, 1, none⟩ = some (.int .i64 k)) (first | exact ⟨q0, q1, q2⟩ | (go_keep)) ((go_at_fn f; (refine Calls.mono (HC.out _ HO.out.drew _ _ (HB.out.below (bl_drew (Below.refl _ _))) (by rw [List.length_drop]; have := HX.out; omega)) ?_); rintro e w1 ⟨b1, ⟨y', j', u, hp, hj, rfl, hE⟩ | ⟨er', u, n, hp, hner, rfl⟩⟩; rotate_left; (exact absurd (HPP.out.symm.trans hp) (by simp)); (obtain ⟨rfl, rfl⟩ : y = y' ∧ j = j' := (by have := HPP.out.symm.trans hp; simpa using this)); (have HE1 := Lib.hid hE); clear hE hp; (have hB1 : Below w.heap.size w w1 := bl_then (bl_drew (Below.refl _ w)) b1); (have hcx := (bcell hB1).1); (have q0 : w1.cell? ⟨G, 0, none⟩ = some (.func (.func f) #[] cap) := (hcx _ 0 hGl).trans hG); (have q1 : w1.cell? ⟨R, 0, none⟩ = some v := (hcx _ 0 hRl).trans h0); (have q2 : w1.cell? ⟨R, 1, none⟩ = some (.int .i64 k) := (hcx _ 1 hRl).trans h1); (have q3 : w1.cell? ⟨X, 0, none⟩ = some (.pointer (some ⟨T, o, none⟩)) := (hcx _ 0 hXl).trans hX); (have oR := HR.out.trk hB1); (have HRep1 := Lib.hid (HS.out.frR _ _ _ HRep.out (Only.ne_ _ hB1))); clear hcx b1))
      obtain ⟨n, rfl⟩ := HEv.out _ _ _ _ HE1.out
      have r3 : w1.cell? ⟨R, 3, none⟩ = some (.int .i64 0) := oR.2.1 3
      have fR3 : w1.frozen? ⟨R, 3, none⟩ = false := oR.2.2 3
      have hR1 := oR.1
      go_upto_region 8 with fail
      have o1 : Only (· = R) w1 (w1.setCell ⟨R, 3, none⟩ (.int .i64 0)) := (Only.refl (· = R) _).setCell (p := ⟨R, 3, none⟩) (.inr rfl) _
      have oR2 := oR.put 3 (.int .i64 0) (Nat.le_of_ble_eq_true rfl)
      have q4 : (w1.setCell ⟨R, 3, none⟩ (.int .i64 0)).cell? ⟨X, 0, none⟩ = some (.pointer (some ⟨T, o, none⟩)) := (o1.cell (a := ⟨X, 0, none⟩) (Nat.lt_of_lt_of_le hXl hB1.size) hXR).trans q3
      have oW : Only P w (w1.setCell ⟨R, 3, none⟩ (.int .i64 0)) := (Only.ne_ P hB1).then_ o1 (fun i _ e => by rw [e]; exact hRP)
      have HE2 := Lib.hid (HE.out _ _ _ _ _ HE1.out (o1.mono fun i _ e => by rw [e]; exact hRl))
      have HRep2 := Lib.hid (HS.out.frR _ _ _ HRep1.out o1)
      clear o1 r3 fR3 hR1 oR q0 q1 q2 q3 HE1 HRep1 hB1
      generalize w1.setCell ⟨R, 3, none⟩ (.int .i64 0) = w2 at *
      obtain ⟨hT1, ⟨t0, ht0⟩, fT⟩ := HF.out.has _ _ HRep2.out
      clear h0 h1 h2 h3 hG hX
      go_upto_region 9 with fail
      have o1 : Only (· = T) w2 (w2.setCell ⟨T, o, none⟩ (.int .u64 n)) := (Only.refl (· = T) _).setCell (p := ⟨T, o, none⟩) (.inr rfl) _
      have oR3 := oR2.only o1 (fun e => hne e.symm)
      have oW3 : Only P w (w2.setCell ⟨T, o, none⟩ (.int .u64 n)) := oW.then_ o1 (fun i _ e => by rw [e]; exact hTP)
      have HRep3 := Lib.hid (HF.out.put _ _ _ _ _ HRep2.out HE2.out HPs.out)
      clear o1 oR2 q4 oW HE2 HRep2 fT hT1 ht0
      generalize w2.setCell ⟨T, o, none⟩ (.int .u64 n) = w3 at *
      have r1 : w3.cell? ⟨R, 1, none⟩ = some (.int .i64 k) := oR3.2.1 1
      have fR1 : w3.frozen? ⟨R, 1, none⟩ = false := oR3.2.2 1
      have hR3 := oR3.1
      have hw := w64_at (k := k) (j := j) (Nat.le_trans HK.out HX.out) (by rw [List.length_drop] at hj; have := HX.out; omega)
      go_wp2
      go_end0
      have o4 : Only (· = R) w3 (w3.setCell ⟨R, 1, none⟩ (.int .i64 ((k + j : Nat) : Int))) := (Only.refl (· = R) _).setCell (p := ⟨R, 1, none⟩) (.inr rfl) _
      refine ⟨rfl, oW3.then_ o4 (fun i _ e => by rw [e]; exact hRP), set y s, k + j, 0, oR3.put 1 _ (Nat.le_of_ble_eq_true rfl), HS.out.frR _ _ _ HRep3.out o4, .inl ⟨j, ?_, rfl, ?_, rfl⟩⟩
      · rw [Ps.bind_ok_ok HPP.out (x := set y s) (m := 0) rfl]; rfl
      · rw [List.length_drop] at hj; have := HK.out; omega
end Go.Proofs.YtgmhapjidbdhnaaGreat
namespace Go.Proofs.YtgmhapjidbdhnaaGreat
open Go.RowKit
set_option maxRecDepth 100000 in
set_option maxHeartbeats 4000000 in
theorem ofY_rd {σ α : Type} {Rep : World → σ → Prop} {R : Nat} {P : Nat → Prop} {w0 : World} {lo T o : Nat} {fv gv pv : Value} {p : Ps α} {E : Nat → World → α → Value → Prop} {set : α → σ → σ}
    (hS : RepR Rep R P) (hF : FldS Rep R P T o E set) (hsh : OfShape 127 w0 lo fv gv pv T o) (hlo : ∀ i, lo ≤ i → i < w0.heap.size → ¬ P i) (hg : Getter (Only P w0) gv p E)
    (hE : ∀ base w1 w2 y u, E base w1 y u → Only (fun i => i < base) w1 w2 → E base w2 y u) (hEv : ∀ base w y u, E base w y u → ∃ n : Bool, u = .bool n) :
    ∃ cap, fv = .func (.func 127) #[] cap ∧ RdPart Rep R P w0 127 cap (fun s => Ps.bind p fun y => Ps.pure (set y s)) := by
  obtain ⟨X, G, Pb, rfl, a1, a2, a3, a4, a5, a6, c1, c2, c3⟩ := hsh.box
  refine ⟨_, rfl, fun args w => by kernel_rfl, fun w s v k e ho hRep he hR => ?_, fun w s v k xs ho hRep hR hb hv hk hx => ?_⟩
  · have h3 : w.cell? ⟨R, 3, none⟩ = some (.int .i64 e) := hR.2.1 3
    have hRl := hR.1
    have he2 : ¬ e = 0 := he
    have HR := Lib.hid hR; have HRep := Lib.hid hRep
    clear hR hRep ho he hE hEv hlo hF hS hg hsh c1 c2 c3
    show Calls Tryz.prog 127 #[.pointer (some ⟨R, 0, none⟩), .pointer (some ⟨Pb, 0, none⟩), .pointer (some ⟨X, 0, none⟩), .pointer (some ⟨G, 0, none⟩)] w _
    go_enter Tryz.func127, Tryz.ntmps127
    go_wp2
    refine bodyPost_ret (results_none rfl _ _ _) rfl ?_
    exact ⟨rfl, Only.refl _ _, HR.out, _, HRep.out⟩
  · have hX : w.cell? ⟨X, 0, none⟩ = some (.pointer (some ⟨T, o, none⟩)) := (ho.cell (a := ⟨X, 0, none⟩) a2 (hlo _ a1 a2)).trans c1
    have hG : w.cell? ⟨G, 0, none⟩ = some gv := (ho.cell (a := ⟨G, 0, none⟩) a4 (hlo _ a3 a4)).trans c2
    have hXl : X < w.heap.size := Nat.lt_of_lt_of_le a2 ho.size
    have hGl : G < w.heap.size := Nat.lt_of_lt_of_le a4 ho.size
    have hXR : ¬ X = R := fun e => hlo _ a1 a2 (e ▸ hS.inR)
    have hPs : ∀ i, P i → i < w.heap.size := fun i hi => by
      by_cases hi2 : i = R
      · rw [hi2]; exact hR.1
      · exact hS.old _ _ hRep i hi hi2
    have h0 : w.cell? ⟨R, 0, none⟩ = some v := hR.2.1 0
    have h1 : w.cell? ⟨R, 1, none⟩ = some (.int .i64 k) := hR.2.1 1
    have h2 : w.cell? ⟨R, 2, none⟩ = some (.bool true) := hR.2.1 2
    have h3 : w.cell? ⟨R, 3, none⟩ = some (.int .i64 0) := hR.2.1 3
    have hRl := hR.1
    obtain ⟨f, cap, rfl, eg, hcall⟩ := hg
    have eg2 : ∀ (args : Array Value) (wx : World), (callFunc f args).run Tryz.prog wx = .ok (.enter f args) wx := eg
    obtain ⟨v', hb', hsl⟩ := hb.suffix hk
    have HB := Lib.hid hb'; have HX := Lib.hid hx; have HK := Lib.hid hk; have HPs := Lib.hid hPs
    have HC := Lib.hid hcall; have HO := Lib.hid ho; have HS := Lib.hid hS; have HF := Lib.hid hF; have HRep := Lib.hid hRep
    have HR := Lib.hid hR; have HE := Lib.hid hE; have HEv := Lib.hid hEv
    have hne := hF.ne; have hTP := hF.inP; have hRP := hS.inR
    clear hb hb' hk hx hv hPs hcall ho hS hF hRep hR hE hEv eg hlo hsh c1 c2 c3 a1 a2 a3 a4 a5 a6
    show Calls Tryz.prog 127 #[.pointer (some ⟨R, 0, none⟩), .pointer (some ⟨Pb, 0, none⟩), .pointer (some ⟨X, 0, none⟩), .pointer (some ⟨G, 0, none⟩)] w _
    rcases hpp : p (xs.drop k) with er | ⟨y, j⟩
    · have HPP := Lib.hid hpp
      clear hpp
      go_enter Tryz.func127, Tryz.ntmps127
      go_upto_region 5 with fail
      go_region_held3 (fun wx => wx.cell? ⟨G, 0, none⟩ = some (.func (.func f) #[] cap) ∧ wx.cell? ⟨R, 0, none⟩ = some v ∧ wx.cell? ⟨R, 1, none⟩ = some (.int .i64 k)) (first | exact ⟨q0, q1, q2⟩ | (go_keep)) ((go_at_fn f; (refine Calls.mono (HC.out _ HO.out.drew _ _ (HB.out.below (bl_drew (Below.refl _ _))) (by rw [List.length_drop]; have := HX.out; omega)) ?_); rintro e w1 ⟨b1, ⟨y', j', u, hp, hj, rfl, hE⟩ | ⟨er', u, n, hp, hner, rfl⟩⟩; (exact absurd (HPP.out.symm.trans hp) (by simp)); (obtain rfl : er = er' := (by have := HPP.out.symm.trans hp; simpa using this)); clear hp; (have hB1 : Below w.heap.size w w1 := bl_then (bl_drew (Below.refl _ w)) b1); (have hcx := (bcell hB1).1); (have q0 : w1.cell? ⟨G, 0, none⟩ = some (.func (.func f) #[] cap) := (hcx _ 0 hGl).trans hG); (have q1 : w1.cell? ⟨R, 0, none⟩ = some v := (hcx _ 0 hRl).trans h0); (have q2 : w1.cell? ⟨R, 1, none⟩ = some (.int .i64 k) := (hcx _ 1 hRl).trans h1); (have q3 : w1.cell? ⟨X, 0, none⟩ = some (.pointer (some ⟨T, o, none⟩)) := (hcx _ 0 hXl).trans hX); (have oR := HR.out.trk hB1); (have HRep1 := Lib.hid (HS.out.frR _ _ _ HRep.out (Only.ne_ _ hB1))); clear hcx b1))
      have r3 : w1.cell? ⟨R, 3, none⟩ = some (.int .i64 0) := oR.2.1 3
      have fR3 : w1.frozen? ⟨R, 3, none⟩ = false := oR.2.2 3
      have hR1 := oR.1
      go_wp2
      go_end0
      have o1 : Only (· = R) w1 (w1.setCell ⟨R, 3, none⟩ (.int .i64 er)) := (Only.refl (· = R) _).setCell (p := ⟨R, 3, none⟩) (.inr rfl) _
      refine ⟨rfl, (Only.ne_ P hB1).then_ o1 (fun i _ e => by rw [e]; exact hRP), s, k, er, oR.put 3 _ (Nat.le_of_ble_eq_true rfl), HS.out.frR _ _ _ HRep1.out o1, .inr ⟨?_, hner⟩⟩
      rw [Ps.bind_error HPP.out]
    · have HPP := Lib.hid hpp
      clear hpp
      go_enter Tryz.func127, Tryz.ntmps127
      go_upto_region 5 with fail
      go_region_held3 (fun wx => wx.cell? ⟨G, 0, none⟩ = some (.func (.func f) #[] cap) ∧ wx.cell? ⟨R, 0, none⟩ = some v ∧ wx.cell? ⟨R, 1, none⟩ = some (.int .i64 k)) (first | exact ⟨q0, q1, q2⟩ | (go_keep)) ((go_at_fn f; (refine Calls.mono (HC.out _ HO.out.drew _ _ (HB.out.below (bl_drew (Below.refl _ _))) (by rw [List.length_drop]; have := HX.out; omega)) ?_); rintro e w1 ⟨b1, ⟨y', j', u, hp, hj, rfl, hE⟩ | ⟨er', u, n, hp, hner, rfl⟩⟩; rotate_left; (exact absurd (HPP.out.symm.trans hp) (by simp)); (obtain ⟨rfl, rfl⟩ : y = y' ∧ j = j' := (by have := HPP.out.symm.trans hp; simpa using this)); (have HE1 := Lib.hid hE); clear hE hp; (have hB1 : Below w.heap.size w w1 := bl_then (bl_drew (Below.refl _ w)) b1); (have hcx := (bcell hB1).1); (have q0 : w1.cell? ⟨G, 0, none⟩ = some (.func (.func f) #[] cap) := (hcx _ 0 hGl).trans hG); (have q1 : w1.cell? ⟨R, 0, none⟩ = some v := (hcx _ 0 hRl).trans h0); (have q2 : w1.cell? ⟨R, 1, none⟩ = some (.int .i64 k) := (hcx _ 1 hRl).trans h1); (have q3 : w1.cell? ⟨X, 0, none⟩ = some (.pointer (some ⟨T, o, none⟩)) := (hcx _ 0 hXl).trans hX); (have oR := HR.out.trk hB1); (have HRep1 := Lib.hid (HS.out.frR _ _ _ HRep.out (Only.ne_ _ hB1))); clear hcx b1))
      obtain ⟨n, rfl⟩ := HEv.out _ _ _ _ HE1.out
      have r3 : w1.cell? ⟨R, 3, none⟩ = some (.int .i64 0) := oR.2.1 3
      have fR3 : w1.frozen? ⟨R, 3, none⟩ = false := oR.2.2 3
      have hR1 := oR.1
      go_upto_region 8 with fail
      have o1 : Only (· = R) w1 (w1.setCell ⟨R, 3, none⟩ (.int .i64 0)) := (Only.refl (· = R) _).setCell (p := ⟨R, 3, none⟩) (.inr rfl) _
      have oR2 := oR.put 3 (.int .i64 0) (Nat.le_of_ble_eq_true rfl)
      have q4 : (w1.setCell ⟨R, 3, none⟩ (.int .i64 0)).cell? ⟨X, 0, none⟩ = some (.pointer (some ⟨T, o, none⟩)) := (o1.cell (a := ⟨X, 0, none⟩) (Nat.lt_of_lt_of_le hXl hB1.size) hXR).trans q3
      have oW : Only P w (w1.setCell ⟨R, 3, none⟩ (.int .i64 0)) := (Only.ne_ P hB1).then_ o1 (fun i _ e => by rw [e]; exact hRP)
      have HE2 := Lib.hid (HE.out _ _ _ _ _ HE1.out (o1.mono fun i _ e => by rw [e]; exact hRl))
      have HRep2 := Lib.hid (HS.out.frR _ _ _ HRep1.out o1)
      clear o1 r3 fR3 hR1 oR q0 q1 q2 q3 HE1 HRep1 hB1
      generalize w1.setCell ⟨R, 3, none⟩ (.int .i64 0) = w2 at *
      obtain ⟨hT1, ⟨t0, ht0⟩, fT⟩ := HF.out.has _ _ HRep2.out
      clear h0 h1 h2 h3 hG hX
      go_upto_region 9 with fail
      have o1 : Only (· = T) w2 (w2.setCell ⟨T, o, none⟩ (.bool n)) := (Only.refl (· = T) _).setCell (p := ⟨T, o, none⟩) (.inr rfl) _
      have oR3 := oR2.only o1 (fun e => hne e.symm)
      have oW3 : Only P w (w2.setCell ⟨T, o, none⟩ (.bool n)) := oW.then_ o1 (fun i _ e => by rw [e]; exact hTP)
      have HRep3 := Lib.hid (HF.out.put _ _ _ _ _ HRep2.out HE2.out HPs.out)
      clear o1 oR2 q4 oW HE2 HRep2 fT hT1 ht0
      generalize w2.setCell ⟨T, o, none⟩ (.bool n) = w3 at *
      have r1 : w3.cell? ⟨R, 1, none⟩ = some (.int .i64 k) := oR3.2.1 1
      have fR1 : w3.frozen? ⟨R, 1, none⟩ = false := oR3.2.2 1
      have hR3 := oR3.1
      have hw := w64_at (k := k) (j := j) (Nat.le_trans HK.out HX.out) (by rw [List.length_drop] at hj; have := HX.out; omega)
      go_wp2
      go_end0
      have o4 : Only (· = R) w3 (w3.setCell ⟨R, 1, none⟩ (.int .i64 ((k + j : Nat) : Int))) := (Only.refl (· = R) _).setCell (p := ⟨R, 1, none⟩) (.inr rfl) _
      refine ⟨rfl, oW3.then_ o4 (fun i _ e => by rw [e]; exact hRP), set y s, k + j, 0, oR3.put 1 _ (Nat.le_of_ble_eq_true rfl), HS.out.frR _ _ _ HRep3.out o4, .inl ⟨j, ?_, rfl, ?_, rfl⟩⟩
      · rw [Ps.bind_ok_ok HPP.out (x := set y s) (m := 0) rfl]; rfl
      · rw [List.length_drop] at hj; have := HK.out; omega
end Go.Proofs.YtgmhapjidbdhnaaGreat
namespace Go.Proofs.YtgmhapjidbdhnaaGreat
open Go.RowKit
set_option maxRecDepth 100000 in
set_option maxHeartbeats 4000000 in
theorem ofB_rd {σ α : Type} {Rep : World → σ → Prop} {R : Nat} {P : Nat → Prop} {w0 : World} {lo T o : Nat} {fv gv pv : Value} {p : Ps α} {E : Nat → World → α → Value → Prop} {set : α → σ → σ}
    (hS : RepR Rep R P) (hF : FldS Rep R P T o E set) (hsh : OfShape 91 w0 lo fv gv pv T o) (hlo : ∀ i, lo ≤ i → i < w0.heap.size → ¬ P i) (hg : Getter (Only P w0) gv p E)
    (hE : ∀ base w1 w2 y u, E base w1 y u → Only (fun i => i < base) w1 w2 → E base w2 y u) (hEv : ∀ base w y u, E base w y u → ∃ A n c, u = .slice A n c) :
    ∃ cap, fv = .func (.func 91) #[] cap ∧ RdPart Rep R P w0 91 cap (fun s => Ps.bind p fun y => Ps.pure (set y s)) := by
  obtain ⟨X, G, Pb, rfl, a1, a2, a3, a4, a5, a6, c1, c2, c3⟩ := hsh.box
  refine ⟨_, rfl, fun args w => by kernel_rfl, fun w s v k e ho hRep he hR => ?_, fun w s v k xs ho hRep hR hb hv hk hx => ?_⟩
  · have h3 : w.cell? ⟨R, 3, none⟩ = some (.int .i64 e) := hR.2.1 3
    have hRl := hR.1
    have he2 : ¬ e = 0 := he
    have HR := Lib.hid hR; have HRep := Lib.hid hRep
    clear hR hRep ho he hE hEv hlo hF hS hg hsh c1 c2 c3
    show Calls Tryz.prog 91 #[.pointer (some ⟨R, 0, none⟩), .pointer (some ⟨Pb, 0, none⟩), .pointer (some ⟨X, 0, none⟩), .pointer (some ⟨G, 0, none⟩)] w _
    go_enter Tryz.func91, Tryz.ntmps91
    go_wp2
    refine bodyPost_ret (results_none rfl _ _ _) rfl ?_
    exact ⟨rfl, Only.refl _ _, HR.out, _, HRep.out⟩
  · have hX : w.cell? ⟨X, 0, none⟩ = some (.pointer (some ⟨T, o, none⟩)) := (ho.cell (a := ⟨X, 0, none⟩) a2 (hlo _ a1 a2)).trans c1
    have hG : w.cell? ⟨G, 0, none⟩ = some gv := (ho.cell (a := ⟨G, 0, none⟩) a4 (hlo _ a3 a4)).trans c2
    have hXl : X < w.heap.size := Nat.lt_of_lt_of_le a2 ho.size
    have hGl : G < w.heap.size := Nat.lt_of_lt_of_le a4 ho.size
    have hXR : ¬ X = R := fun e => hlo _ a1 a2 (e ▸ hS.inR)
    have hPs : ∀ i, P i → i < w.heap.size := fun i hi => by
      by_cases hi2 : i = R
      · rw [hi2]; exact hR.1
      · exact hS.old _ _ hRep i hi hi2
    have h0 : w.cell? ⟨R, 0, none⟩ = some v := hR.2.1 0
    have h1 : w.cell? ⟨R, 1, none⟩ = some (.int .i64 k) := hR.2.1 1
    have h2 : w.cell? ⟨R, 2, none⟩ = some (.bool true) := hR.2.1 2
    have h3 : w.cell? ⟨R, 3, none⟩ = some (.int .i64 0) := hR.2.1 3
    have hRl := hR.1
    obtain ⟨f, cap, rfl, eg, hcall⟩ := hg
    have eg2 : ∀ (args : Array Value) (wx : World), (callFunc f args).run Tryz.prog wx = .ok (.enter f args) wx := eg
    obtain ⟨v', hb', hsl⟩ := hb.suffix hk
    have HB := Lib.hid hb'; have HX := Lib.hid hx; have HK := Lib.hid hk; have HPs := Lib.hid hPs
    have HC := Lib.hid hcall; have HO := Lib.hid ho; have HS := Lib.hid hS; have HF := Lib.hid hF; have HRep := Lib.hid hRep
    have HR := Lib.hid hR; have HE := Lib.hid hE; have HEv := Lib.hid hEv
    have hne := hF.ne; have hTP := hF.inP; have hRP := hS.inR
    clear hb hb' hk hx hv hPs hcall ho hS hF hRep hR hE hEv eg hlo hsh c1 c2 c3 a1 a2 a3 a4 a5 a6
    show Calls Tryz.prog 91 #[.pointer (some ⟨R, 0, none⟩), .pointer (some ⟨Pb, 0, none⟩), .pointer (some ⟨X, 0, none⟩), .pointer (some ⟨G, 0, none⟩)] w _
    rcases hpp : p (xs.drop k) with er | ⟨y, j⟩
    · have HPP := Lib.hid hpp
      clear hpp
      go_enter Tryz.func91, Tryz.ntmps91
      go_upto_region 5 with fail
      go_region_held3 (fun wx => wx.cell? ⟨G, 0, none⟩ = some (.func (.func f) #[] cap) ∧ wx.cell? ⟨R, 0, none⟩ = some v ∧ wx.cell? ⟨R, 1, none⟩ = some (.int .i64 k)) (first | exact ⟨q0, q1, q2⟩ | (go_keep)) ((go_at_fn f; (refine Calls.mono (HC.out _ HO.out.drew _ _ (HB.out.below (bl_drew (Below.refl _ _))) (by rw [List.length_drop]; have := HX.out; omega)) ?_); rintro e w1 ⟨b1, ⟨y', j', u, hp, hj, rfl, hE⟩ | ⟨er', u, n, hp, hner, rfl⟩⟩; (exact absurd (HPP.out.symm.trans hp) (by simp)); (obtain rfl : er = er' := (by have := HPP.out.symm.trans hp; simpa using this)); clear hp; (have hB1 : Below w.heap.size w w1 := bl_then (bl_drew (Below.refl _ w)) b1); (have hcx := (bcell hB1).1); (have q0 : w1.cell? ⟨G, 0, none⟩ = some (.func (.func f) #[] cap) := (hcx _ 0 hGl).trans hG); (have q1 : w1.cell? ⟨R, 0, none⟩ = some v := (hcx _ 0 hRl).trans h0); (have q2 : w1.cell? ⟨R, 1, none⟩ = some (.int .i64 k) := (hcx _ 1 hRl).trans h1); (have q3 : w1.cell? ⟨X, 0, none⟩ = some (.pointer (some ⟨T, o, none⟩)) := (hcx _ 0 hXl).trans hX); (have oR := HR.out.trk hB1); (have HRep1 := Lib.hid (HS.out.frR _ _ _ HRep.out (Only.ne_ _ hB1))); clear hcx b1))
      have r3 : w1.cell? ⟨R, 3, none⟩ = some (.int .i64 0) := oR.2.1 3
      have fR3 : w1.frozen? ⟨R, 3, none⟩ = false := oR.2.2 3
      have hR1 := oR.1
      go_wp2
      go_end0
      have o1 : Only (· = R) w1 (w1.setCell ⟨R, 3, none⟩ (.int .i64 er)) := (Only.refl (· = R) _).setCell (p := ⟨R, 3, none⟩) (.inr rfl) _
      refine ⟨rfl, (Only.ne_ P hB1).then_ o1 (fun i _ e => by rw [e]; exact hRP), s, k, er, oR.put 3 _ (Nat.le_of_ble_eq_true rfl), HS.out.frR _ _ _ HRep1.out o1, .inr ⟨?_, hner⟩⟩
      rw [Ps.bind_error HPP.out]
    · have HPP := Lib.hid hpp
      clear hpp
      go_enter Tryz.func91, Tryz.ntmps91
      go_upto_region 5 with fail
      go_region_held3 (fun wx => wx.cell? ⟨G, 0, none⟩ = some (.func (.func f) #[] cap) ∧ wx.cell? ⟨R, 0, none⟩ = some v ∧ wx.cell? ⟨R, 1, none⟩ = some (.int .i64 k)) (first | exact ⟨q0, q1, q2⟩ | (go_keep)) ((go_at_fn f; (refine Calls.mono (HC.out _ HO.out.drew _ _ (HB.out.below (bl_drew (Below.refl _ _))) (by rw [List.length_drop]; have := HX.out; omega)) ?_); rintro e w1 ⟨b1, ⟨y', j', u, hp, hj, rfl, hE⟩ | ⟨er', u, n, hp, hner, rfl⟩⟩; rotate_left; (exact absurd (HPP.out.symm.trans hp) (by simp)); (obtain ⟨rfl, rfl⟩ : y = y' ∧ j = j' := (by have := HPP.out.symm.trans hp; simpa using this)); (have HE1 := Lib.hid hE); clear hE hp; (have hB1 : Below w.heap.size w w1 := bl_then (bl_drew (Below.refl _ w)) b1); (have hcx := (bcell hB1).1); (have q0 : w1.cell? ⟨G, 0, none⟩ = some (.func (.func f) #[] cap) := (hcx _ 0 hGl).trans hG); (have q1 : w1.cell? ⟨R, 0, none⟩ = some v := (hcx _ 0 hRl).trans h0); (have q2 : w1.cell? ⟨R, 1, none⟩ = some (.int .i64 k) := (hcx _ 1 hRl).trans h1); (have q3 : w1.cell? ⟨X, 0, none⟩ = some (.pointer (some ⟨T, o, none⟩)) := (hcx _ 0 hXl).trans hX); (have oR := HR.out.trk hB1); (have HRep1 := Lib.hid (HS.out.frR _ _ _ HRep.out (Only.ne_ _ hB1))); clear hcx b1))
      obtain ⟨A, n, c, rfl⟩ := HEv.out _ _ _ _ HE1.out
      have r3 : w1.cell? ⟨R, 3, none⟩ = some (.int .i64 0) := oR.2.1 3
      have fR3 : w1.frozen? ⟨R, 3, none⟩ = false := oR.2.2 3
      have hR1 := oR.1
      go_upto_region 8 with fail
      have o1 : Only (· = R) w1 (w1.setCell ⟨R, 3, none⟩ (.int .i64 0)) := (Only.refl (· = R) _).setCell (p := ⟨R, 3, none⟩) (.inr rfl) _
      have oR2 := oR.put 3 (.int .i64 0) (Nat.le_of_ble_eq_true rfl)
      have q4 : (w1.setCell ⟨R, 3, none⟩ (.int .i64 0)).cell? ⟨X, 0, none⟩ = some (.pointer (some ⟨T, o, none⟩)) := (o1.cell (a := ⟨X, 0, none⟩) (Nat.lt_of_lt_of_le hXl hB1.size) hXR).trans q3
      have oW : Only P w (w1.setCell ⟨R, 3, none⟩ (.int .i64 0)) := (Only.ne_ P hB1).then_ o1 (fun i _ e => by rw [e]; exact hRP)
      have HE2 := Lib.hid (HE.out _ _ _ _ _ HE1.out (o1.mono fun i _ e => by rw [e]; exact hRl))
      have HRep2 := Lib.hid (HS.out.frR _ _ _ HRep1.out o1)
      clear o1 r3 fR3 hR1 oR q0 q1 q2 q3 HE1 HRep1 hB1
      generalize w1.setCell ⟨R, 3, none⟩ (.int .i64 0) = w2 at *
      obtain ⟨hT1, ⟨t0, ht0⟩, fT⟩ := HF.out.has _ _ HRep2.out
      clear h0 h1 h2 h3 hG hX
      go_upto_region 9 with fail
      have o1 : Only (· = T) w2 (w2.setCell ⟨T, o, none⟩ (.slice A n c)) := (Only.refl (· = T) _).setCell (p := ⟨T, o, none⟩) (.inr rfl) _
      have oR3 := oR2.only o1 (fun e => hne e.symm)
      have oW3 : Only P w (w2.setCell ⟨T, o, none⟩ (.slice A n c)) := oW.then_ o1 (fun i _ e => by rw [e]; exact hTP)
      have HRep3 := Lib.hid (HF.out.put _ _ _ _ _ HRep2.out HE2.out HPs.out)
      clear o1 oR2 q4 oW HE2 HRep2 fT hT1 ht0
      generalize w2.setCell ⟨T, o, none⟩ (.slice A n c) = w3 at *
      have r1 : w3.cell? ⟨R, 1, none⟩ = some (.int .i64 k) := oR3.2.1 1
      have fR1 : w3.frozen? ⟨R, 1, none⟩ = false := oR3.2.2 1
      have hR3 := oR3.1
      have hw := w64_at (k := k) (j := j) (Nat.le_trans HK.out HX.out) (by rw [List.length_drop] at hj; have := HX.out; omega)
      go_wp2
      go_end0
      have o4 : Only (· = R) w3 (w3.setCell ⟨R, 1, none⟩ (.int .i64 ((k + j : Nat) : Int))) := (Only.refl (· = R) _).setCell (p := ⟨R, 1, none⟩) (.inr rfl) _
      refine ⟨rfl, oW3.then_ o4 (fun i _ e => by rw [e]; exact hRP), set y s, k + j, 0, oR3.put 1 _ (Nat.le_of_ble_eq_true rfl), HS.out.frR _ _ _ HRep3.out o4, .inl ⟨j, ?_, rfl, ?_, rfl⟩⟩
      · rw [Ps.bind_ok_ok HPP.out (x := set y s) (m := 0) rfl]; rfl
      · rw [List.length_drop] at hj; have := HK.out; omega
end Go.Proofs.YtgmhapjidbdhnaaGreat
namespace Go.Proofs.YtgmhapjidbdhnaaGreat
open Go.RowKit
set_option maxRecDepth 100000 in
set_option maxHeartbeats 4000000 in
theorem ofS_rd {σ α : Type} {Rep : World → σ → Prop} {R : Nat} {P : Nat → Prop} {w0 : World} {lo T o : Nat} {fv gv pv : Value} {p : Ps α} {E : Nat → World → α → Value → Prop} {set : α → σ → σ}
    (hS : RepR Rep R P) (hF : FldS Rep R P T o E set) (hsh : OfShape 93 w0 lo fv gv pv T o) (hlo : ∀ i, lo ≤ i → i < w0.heap.size → ¬ P i) (hg : Getter (Only P w0) gv p E)
    (hE : ∀ base w1 w2 y u, E base w1 y u → Only (fun i => i < base) w1 w2 → E base w2 y u) (hEv : ∀ base w y u, E base w y u → ∃ n, u = .string n) :
    ∃ cap, fv = .func (.func 93) #[] cap ∧ RdPart Rep R P w0 93 cap (fun s => Ps.bind p fun y => Ps.pure (set y s)) := by
  obtain ⟨X, G, Pb, rfl, a1, a2, a3, a4, a5, a6, c1, c2, c3⟩ := hsh.box
  refine ⟨_, rfl, fun args w => by kernel_rfl, fun w s v k e ho hRep he hR => ?_, fun w s v k xs ho hRep hR hb hv hk hx => ?_⟩
  · have h3 : w.cell? ⟨R, 3, none⟩ = some (.int .i64 e) := hR.2.1 3
    have hRl := hR.1
    have he2 : ¬ e = 0 := he
    have HR := Lib.hid hR; have HRep := Lib.hid hRep
    clear hR hRep ho he hE hEv hlo hF hS hg hsh c1 c2 c3
    show Calls Tryz.prog 93 #[.pointer (some ⟨R, 0, none⟩), .pointer (some ⟨Pb, 0, none⟩), .pointer (some ⟨X, 0, none⟩), .pointer (some ⟨G, 0, none⟩)] w _
    go_enter Tryz.func93, Tryz.ntmps93
    go_wp2
    refine bodyPost_ret (results_none rfl _ _ _) rfl ?_
    exact ⟨rfl, Only.refl _ _, HR.out, _, HRep.out⟩
  · have hX : w.cell? ⟨X, 0, none⟩ = some (.pointer (some ⟨T, o, none⟩)) := (ho.cell (a := ⟨X, 0, none⟩) a2 (hlo _ a1 a2)).trans c1
    have hG : w.cell? ⟨G, 0, none⟩ = some gv := (ho.cell (a := ⟨G, 0, none⟩) a4 (hlo _ a3 a4)).trans c2
    have hXl : X < w.heap.size := Nat.lt_of_lt_of_le a2 ho.size
    have hGl : G < w.heap.size := Nat.lt_of_lt_of_le a4 ho.size
    have hXR : ¬ X = R := fun e => hlo _ a1 a2 (e ▸ hS.inR)
    have hPs : ∀ i, P i → i < w.heap.size := fun i hi => by
      by_cases hi2 : i = R
      · rw [hi2]; exact hR.1
      · exact hS.old _ _ hRep i hi hi2
    have h0 : w.cell? ⟨R, 0, none⟩ = some v := hR.2.1 0
    have h1 : w.cell? ⟨R, 1, none⟩ = some (.int .i64 k) := hR.2.1 1
    have h2 : w.cell? ⟨R, 2, none⟩ = some (.bool true) := hR.2.1 2
    have h3 : w.cell? ⟨R, 3, none⟩ = some (.int .i64 0) := hR.2.1 3
    have hRl := hR.1
    obtain ⟨f, cap, rfl, eg, hcall⟩ := hg
    have eg2 : ∀ (args : Array Value) (wx : World), (callFunc f args).run Tryz.prog wx = .ok (.enter f args) wx := eg
    obtain ⟨v', hb', hsl⟩ := hb.suffix hk
    have HB := Lib.hid hb'; have HX := Lib.hid hx; have HK := Lib.hid hk; have HPs := Lib.hid hPs
    have HC := Lib.hid hcall; have HO := Lib.hid ho; have HS := Lib.hid hS; have HF := Lib.hid hF; have HRep := Lib.hid hRep
    have HR := Lib.hid hR; have HE := Lib.hid hE; have HEv := Lib.hid hEv
    have hne := hF.ne; have hTP := hF.inP; have hRP := hS.inR
    clear hb hb' hk hx hv hPs hcall ho hS hF hRep hR hE hEv eg hlo hsh c1 c2 c3 a1 a2 a3 a4 a5 a6
    show Calls Tryz.prog 93 #[.pointer (some ⟨R, 0, none⟩), .pointer (some ⟨Pb, 0, none⟩), .pointer (some ⟨X, 0, none⟩), .pointer (some ⟨G, 0, none⟩)] w _
    rcases hpp : p (xs.drop k) with er | ⟨y, j⟩
    · have HPP := Lib.hid hpp
      clear hpp
      go_enter Tryz.func93, Tryz.ntmps93
      go_upto_region 5 with fail
      go_region_held3 (fun wx => wx.cell? ⟨G, 0, none⟩ = some (.func (.func f) #[] cap) ∧ wx.cell? ⟨R, 0, none⟩ = some v ∧ wx.cell? ⟨R, 1, none⟩ = some (.int .i64 k)) (first | exact ⟨q0, q1, q2⟩ | (go_keep)) ((go_at_fn f; (refine Calls.mono (HC.out _ HO.out.drew _ _ (HB.out.below (bl_drew (Below.refl _ _))) (by rw [List.length_drop]; have := HX.out; omega)) ?_); rintro e w1 ⟨b1, ⟨y', j', u, hp, hj, rfl, hE⟩ | ⟨er', u, n, hp, hner, rfl⟩⟩; (exact absurd (HPP.out.symm.trans hp) (by simp)); (obtain rfl : er = er' := (by have := HPP.out.symm.trans hp; simpa using this)); clear hp; (have hB1 : Below w.heap.size w w1 := bl_then (bl_drew (Below.refl _ w)) b1); (have hcx := (bcell hB1).1); (have q0 : w1.cell? ⟨G, 0, none⟩ = some (.func (.func f) #[] cap) := (hcx _ 0 hGl).trans hG); (have q1 : w1.cell? ⟨R, 0, none⟩ = some v := (hcx _ 0 hRl).trans h0); (have q2 : w1.cell? ⟨R, 1, none⟩ = some (.int .i64 k) := (hcx _ 1 hRl).trans h1); (have q3 : w1.cell? ⟨X, 0, none⟩ = some (.pointer (some ⟨T, o, none⟩)) := (hcx _ 0 hXl).trans hX); (have oR := HR.out.trk hB1); (have HRep1 := Lib.hid (HS.out.frR _ _ _ HRep.out (Only.ne_ _ hB1))); clear hcx b1))
      have r3 : w1.cell? ⟨R, 3, none⟩ = some (.int .i64 0) := oR.2.1 3
      have fR3 : w1.frozen? ⟨R, 3, none⟩ = false := oR.2.2 3
      have hR1 := oR.1
      go_wp2
      go_end0
      have o1 : Only (· = R) w1 (w1.setCell ⟨R, 3, none⟩ (.int .i64 er)) := (Only.refl (· = R) _).setCell (p := ⟨R, 3, none⟩) (.inr rfl) _
      refine ⟨rfl, (Only.ne_ P hB1).then_ o1 (fun i _ e => by rw [e]; exact hRP), s, k, er, oR.put 3 _ (Nat.le_of_ble_eq_true rfl), HS.out.frR _ _ _ HRep1.out o1, .inr ⟨?_, hner⟩⟩
      rw [Ps.bind_error HPP.out]
    · have HPP := Lib.hid hpp
      clear hpp
      go_enter Tryz.func93, Tryz.ntmps93
      go_upto_region 5 with fail
      go_region_held3 (fun wx => wx.cell? ⟨G, 0, none⟩ = some (.func (.func f) #[] cap) ∧ wx.cell? ⟨R, 0, none⟩ = some v ∧ wx.cell? ⟨R, 1, none⟩ = some (.int .i64 k)) (first | exact ⟨q0, q1, q2⟩ | (go_keep)) ((go_at_fn f; (refine Calls.mono (HC.out _ HO.out.drew _ _ (HB.out.below (bl_drew (Below.refl _ _))) (by rw [List.length_drop]; have := HX.out; omega)) ?_); rintro e w1 ⟨b1, ⟨y', j', u, hp, hj, rfl, hE⟩ | ⟨er', u, n, hp, hner, rfl⟩⟩; rotate_left; (exact absurd (HPP.out.symm.trans hp) (by simp)); (obtain ⟨rfl, rfl⟩ : y = y' ∧ j = j' := (by have := HPP.out.symm.trans hp; simpa using this)); (have HE1 := Lib.hid hE); clear hE hp; (have hB1 : Below w.heap.size w w1 := bl_then (bl_drew (Below.refl _ w)) b1); (have hcx := (bcell hB1).1); (have q0 : w1.cell? ⟨G, 0, none⟩ = some (.func (.func f) #[] cap) := (hcx _ 0 hGl).trans hG); (have q1 : w1.cell? ⟨R, 0, none⟩ = some v := (hcx _ 0 hRl).trans h0); (have q2 : w1.cell? ⟨R, 1, none⟩ = some (.int .i64 k) := (hcx _ 1 hRl).trans h1); (have q3 : w1.cell? ⟨X, 0, none⟩ = some (.pointer (some ⟨T, o, none⟩)) := (hcx _ 0 hXl).trans hX); (have oR := HR.out.trk hB1); (have HRep1 := Lib.hid (HS.out.frR _ _ _ HRep.out (Only.ne_ _ hB1))); clear hcx b1))
      obtain ⟨n, rfl⟩ := HEv.out _ _ _ _ HE1.out
      have r3 : w1.cell? ⟨R, 3, none⟩ = some (.int .i64 0) := oR.2.1 3
      have fR3 : w1.frozen? ⟨R, 3, none⟩ = false := oR.2.2 3
      have hR1 := oR.1
      go_upto_region 8 with fail
      have o1 : Only (· = R) w1 (w1.setCell ⟨R, 3, none⟩ (.int .i64 0)) := (Only.refl (· = R) _).setCell (p := ⟨R, 3, none⟩) (.inr rfl) _
      have oR2 := oR.put 3 (.int .i64 0) (Nat.le_of_ble_eq_true rfl)
      have q4 : (w1.setCell ⟨R, 3, none⟩ (.int .i64 0)).cell? ⟨X, 0, none⟩ = some (.pointer (some ⟨T, o, none⟩)) := (o1.cell (a := ⟨X, 0, none⟩) (Nat.lt_of_lt_of_le hXl hB1.size) hXR).trans q3
      have oW : Only P w (w1.setCell ⟨R, 3, none⟩ (.int .i64 0)) := (Only.ne_ P hB1).then_ o1 (fun i _ e => by rw [e]; exact hRP)
      have HE2 := Lib.hid (HE.out _ _ _ _ _ HE1.out (o1.mono fun i _ e => by rw [e]; exact hRl))
      have HRep2 := Lib.hid (HS.out.frR _ _ _ HRep1.out o1)
      clear o1 r3 fR3 hR1 oR q0 q1 q2 q3 HE1 HRep1 hB1
      generalize w1.setCell ⟨R, 3, none⟩ (.int .i64 0) = w2 at *
      obtain ⟨hT1, ⟨t0, ht0⟩, fT⟩ := HF.out.has _ _ HRep2.out
      clear h0 h1 h2 h3 hG hX
      go_upto_region 9 with fail
      have o1 : Only (· = T) w2 (w2.setCell ⟨T, o, none⟩ (.string n)) := (Only.refl (· = T) _).setCell (p := ⟨T, o, none⟩) (.inr rfl) _
      have oR3 := oR2.only o1 (fun e => hne e.symm)
      have oW3 : Only P w (w2.setCell ⟨T, o, none⟩ (.string n)) := oW.then_ o1 (fun i _ e => by rw [e]; exact hTP)
      have HRep3 := Lib.hid (HF.out.put _ _ _ _ _ HRep2.out HE2.out HPs.out)
      clear o1 oR2 q4 oW HE2 HRep2 fT hT1 ht0
      generalize w2.setCell ⟨T, o, none⟩ (.string n) = w3 at *
      have r1 : w3.cell? ⟨R, 1, none⟩ = some (.int .i64 k) := oR3.2.1 1
      have fR1 : w3.frozen? ⟨R, 1, none⟩ = false := oR3.2.2 1
      have hR3 := oR3.1
      have hw := w64_at (k := k) (j := j) (Nat.le_trans HK.out HX.out) (by rw [List.length_drop] at hj; have := HX.out; omega)
      go_wp2
      go_end0
      have o4 : Only (· = R) w3 (w3.setCell ⟨R, 1, none⟩ (.int .i64 ((k + j : Nat) : Int))) := (Only.refl (· = R) _).setCell (p := ⟨R, 1, none⟩) (.inr rfl) _
      refine ⟨rfl, oW3.then_ o4 (fun i _ e => by rw [e]; exact hRP), set y s, k + j, 0, oR3.put 1 _ (Nat.le_of_ble_eq_true rfl), HS.out.frR _ _ _ HRep3.out o4, .inl ⟨j, ?_, rfl, ?_, rfl⟩⟩
      · rw [Ps.bind_ok_ok HPP.out (x := set y s) (m := 0) rfl]; rfl
      · rw [List.length_drop] at hj; have := HK.out; omega
end Go.Proofs.YtgmhapjidbdhnaaGreat

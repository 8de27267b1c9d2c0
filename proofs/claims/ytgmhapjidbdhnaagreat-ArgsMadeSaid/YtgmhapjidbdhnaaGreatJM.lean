/- parts.of over [8]byte: what the part does when it reads. -/
import Derived.Test.YtgmhapjidbdhnaaGreatJI
import Derived.Deep.RegionHeld2
set_option linter.unusedVariables false
set_option linter.unusedSimpArgs false
namespace Go.Proofs.YtgmhapjidbdhnaaGreat
open Go.RowKit
set_option maxRecDepth 100000 in
set_option maxHeartbeats 4000000 in
theorem ofT_rd {σ α : Type} {Rep : World → σ → Prop} {R : Nat} {P : Nat → Prop} {w0 : World} {lo T o : Nat} {fv gv pv : Value} {p : Ps α} {enc : α → List Value} {wf : α → Prop} {set : α → σ → σ}
    (hS : RepR Rep R P) (hF : FldSM Rep R P T o 2 enc wf set) (hsh : OfShape 124 w0 lo fv gv pv T o) (hlo : ∀ i, lo ≤ i → i < w0.heap.size → ¬ P i) (hg : GetterM (Only P w0) gv p 2 enc wf) :
    ∃ cap, fv = .func (.func 124) #[] cap ∧ RdPart Rep R P w0 124 cap (fun s => Ps.bind p fun y => Ps.pure (set y s)) := by
  obtain ⟨X, G, Pb, rfl, a1, a2, a3, a4, a5, a6, c1, c2, c3⟩ := hsh.box
  refine ⟨_, rfl, fun args w => by kernel_rfl, fun w s v k e ho hRep he hR => ?_, fun w s v k xs ho hRep hR hb hv hk hx => ?_⟩
  · have h3 : w.cell? ⟨R, 3, none⟩ = some (.int .i64 e) := hR.2.1 3
    have hRl := hR.1
    have he2 : ¬ e = 0 := he
    have HR := Lib.hid hR; have HRep := Lib.hid hRep
    clear hR hRep ho he hlo hF hS hg hsh c1 c2 c3
    show Calls Tryz.prog 124 #[.pointer (some ⟨R, 0, none⟩), .pointer (some ⟨Pb, 0, none⟩), .pointer (some ⟨X, 0, none⟩), .pointer (some ⟨G, 0, none⟩)] w _
    go_enter Tryz.func124, Tryz.ntmps124
    go_wp2
    refine bodyPost_ret (results_none rfl _ _ _) rfl ?_
    exact ⟨rfl, Only.refl _ _, HR.out, _, HRep.out⟩
  · have hX : w.cell? ⟨X, 0, none⟩ = some (.pointer (some ⟨T, o, none⟩)) := (ho.cell (a := ⟨X, 0, none⟩) a2 (hlo _ a1 a2)).trans c1
    have hG : w.cell? ⟨G, 0, none⟩ = some gv := (ho.cell (a := ⟨G, 0, none⟩) a4 (hlo _ a3 a4)).trans c2
    have hXl : X < w.heap.size := Nat.lt_of_lt_of_le a2 ho.size
    have hGl : G < w.heap.size := Nat.lt_of_lt_of_le a4 ho.size
    have hXR : ¬ X = R := fun e => hlo _ a1 a2 (e ▸ hS.inR)
    have hPs : ∀ i, P i → i < w.heap.size := fun i hi => by
      by_cases hi2 : i = R
      · rw [hi2]; exact hR.1
      · exact hS.old _ _ hRep i hi hi2
    have h0 : w.cell? ⟨R, 0, none⟩ = some v := hR.2.1 0
    have h1 : w.cell? ⟨R, 1, none⟩ = some (.int .i64 k) := hR.2.1 1
    have h2 : w.cell? ⟨R, 2, none⟩ = some (.bool true) := hR.2.1 2
    have h3 : w.cell? ⟨R, 3, none⟩ = some (.int .i64 0) := hR.2.1 3
    have hRl := hR.1
    obtain ⟨f, cap, rfl, eg, hcall⟩ := hg
    have eg2 : ∀ (args : Array Value) (wx : World), (callFunc f args).run Tryz.prog wx = .ok (.enter f args) wx := eg
    obtain ⟨v', hb', hsl⟩ := hb.suffix hk
    have HB := Lib.hid hb'; have HX := Lib.hid hx; have HK := Lib.hid hk; have HPs := Lib.hid hPs
    have HC := Lib.hid hcall; have HO := Lib.hid ho; have HS := Lib.hid hS; have HF := Lib.hid hF; have HRep := Lib.hid hRep
    have HR := Lib.hid hR
    have hne := hF.ne; have hTP := hF.inP; have hRP := hS.inR
    clear hb hb' hk hx hv hPs hcall ho hS hF hRep hR eg hlo hsh c1 c2 c3 a1 a2 a3 a4 a5 a6
    show Calls Tryz.prog 124 #[.pointer (some ⟨R, 0, none⟩), .pointer (some ⟨Pb, 0, none⟩), .pointer (some ⟨X, 0, none⟩), .pointer (some ⟨G, 0, none⟩)] w _
    go_enter Tryz.func124, Tryz.ntmps124
    go_upto_region 5 with fail
    go_cut [7, 8, 9] from 10 (fun y n e wx => ∃ Y cs, ∃ nn er : Int, y = .pointer (some ⟨Y, 0, none⟩) ∧ n = .int .i64 nn ∧ e = .int .i64 er ∧ cs.length = 2 ∧ Hid (∀ v ∈ cs, v.oneCell' = true) ∧ OwnL wx Y cs ∧ w.heap.size ≤ Y ∧ Below w.heap.size w wx ∧
      Hid ((er = 0 ∧ ∃ y j, p (xs.drop k) = .ok (y, j) ∧ nn = (j : Nat) ∧ j ≤ (xs.drop k).length ∧ cs = enc y ∧ wf y) ∨ (er ≠ 0 ∧ p (xs.drop k) = .error er)))
    case first =>
      refine wp_region_held_drew (S := fun wq => wq.cell? ⟨G, 0, none⟩ = some (.func (.func f) #[] cap) ∧ wq.cell? ⟨R, 0, none⟩ = some v ∧ wq.cell? ⟨R, 1, none⟩ = some (.int .i64 k)) rfl ⟨hG, h0, h1⟩ fun hS0 => ?_
      (refine wpAnyH_take (i := 0) (v := ?_) rfl (by kernel_rfl) (by kernel_rfl) (by kernel_rfl) (fun _ _ _ h => h) (Or.inl ⟨by rfl, ?_⟩) (by assumption) ?_; rotate_left; (intro wq hSw; (try dsimp only at hSw); go_simp; (try with_reducible rfl)); rotate_left; (try dsimp only [Act.put]); (try simp only [List.setIfInBounds_toArray, List.set_cons_zero, List.set_cons_succ]))
      (refine wpAnyH_take (i := 1) (v := ?_) rfl (by kernel_rfl) (by kernel_rfl) (by kernel_rfl) (fun _ _ _ h => h) (Or.inl ⟨by rfl, ?_⟩) (by assumption) ?_; rotate_left; (intro wq hSw; (try dsimp only at hSw); go_simp; (try with_reducible rfl)); rotate_left; (try dsimp only [Act.put]); (try simp only [List.setIfInBounds_toArray, List.set_cons_zero, List.set_cons_succ]))
      (refine wpAnyH_take (i := 2) (v := ?_) rfl (by kernel_rfl) (by kernel_rfl) (by kernel_rfl) (fun _ _ _ h => h) (Or.inl ⟨by rfl, ?_⟩) (by assumption) ?_; rotate_left; (intro wq hSw; (try dsimp only at hSw); go_simp; (try with_reducible rfl)); rotate_left; (try dsimp only [Act.put]); (try simp only [List.setIfInBounds_toArray, List.set_cons_zero, List.set_cons_succ]))
      (refine wpAnyH_take (i := 3) (v := ?_) rfl (by kernel_rfl) (by kernel_rfl) (by kernel_rfl) (fun _ _ _ h => h) (Or.inl ⟨by rfl, ?_⟩) (by assumption) ?_; rotate_left; (intro wq hSw; (try dsimp only at hSw); go_simp; (try with_reducible rfl)); rotate_left; (try dsimp only [Act.put]); (try simp only [List.setIfInBounds_toArray, List.set_cons_zero, List.set_cons_succ]))
      (refine wpAnyH_take (i := 4) (v := ?_) rfl (by kernel_rfl) (by kernel_rfl) (by kernel_rfl) (fun _ _ _ h => h) (Or.inl ⟨by rfl, ?_⟩) (by assumption) ?_; rotate_left; (intro wq hSw; (try dsimp only at hSw); go_simp; (try with_reducible rfl)); rotate_left; (try dsimp only [Act.put]); (try simp only [List.setIfInBounds_toArray, List.set_cons_zero, List.set_cons_succ]))
      (refine wpAnyH_take (i := 5) (v := ?_) rfl (by kernel_rfl) (by kernel_rfl) (by kernel_rfl) (fun _ _ _ h => h) (Or.inl ⟨by rfl, ?_⟩) (by assumption) ?_; rotate_left; (intro wq hSw; (try dsimp only at hSw); go_simp; (try with_reducible rfl)); rotate_left; (try dsimp only [Act.put]); (try simp only [List.setIfInBounds_toArray, List.set_cons_zero, List.set_cons_succ]))
      (refine wpAnyH_take (i := 6) (v := ?_) rfl (by kernel_rfl) (by kernel_rfl) (by kernel_rfl) (fun _ _ _ h => h) (Or.inl ⟨by rfl, ?_⟩) (by assumption) ?_; rotate_left; (intro wq hSw; (try dsimp only at hSw); go_simp; (try with_reducible rfl)); rotate_left; (try dsimp only [Act.put]); (try simp only [List.setIfInBounds_toArray, List.set_cons_zero, List.set_cons_succ]))
      (refine wpAnyH_take (i := 7) (v := ?_) rfl (by kernel_rfl) (by kernel_rfl) (by kernel_rfl) (fun _ _ _ h => h) (Or.inl ⟨by rfl, ?_⟩) (by assumption) ?_; rotate_left; (intro wq hSw; (try dsimp only at hSw); go_simp; (try with_reducible rfl)); rotate_left; (try dsimp only [Act.put]); (try simp only [List.setIfInBounds_toArray, List.set_cons_zero, List.set_cons_succ]))
      (refine wpAnyH_take (i := 8) (v := ?_) rfl (by kernel_rfl) (by kernel_rfl) (by kernel_rfl) (fun _ _ _ h => h) (Or.inl ⟨by rfl, ?_⟩) (by assumption) ?_; rotate_left; (intro wq hSw; (try dsimp only at hSw); go_simp; (try with_reducible rfl)); rotate_left; (try dsimp only [Act.put]); (try simp only [List.setIfInBounds_toArray, List.set_cons_zero, List.set_cons_succ]))
      (refine wpAnyH_take (i := 9) (v := ?_) rfl (by kernel_rfl) (by kernel_rfl) (by kernel_rfl) (fun _ _ _ h => h) (Or.inl ⟨by rfl, ?_⟩) (by assumption) ?_; rotate_left; (intro wq hSw; (try dsimp only at hSw); go_simp; (try with_reducible rfl)); rotate_left; (try dsimp only [Act.put]); (try simp only [List.setIfInBounds_toArray, List.set_cons_zero, List.set_cons_succ]))
      refine wpAnyH_ready (rs := [10, 15]) (by kernel_rfl) (by simp) ?_
      refine AllReadyH.cons rfl (fun K hK => ?_) (AllReadyH.cons rfl (fun K hK => ?_) AllReadyH.nil)
      · -- the call ahead of the variable
        rw [if_pos (by rfl)]
        go_simp
        go_at_fn f; (refine Calls.mono (HC.out _ (HO.out.below (by (with_reducible (repeat' (first | exact Below.refl _ _ | assumption | apply bl_alloc | apply bl_drewN | apply bl_drew | refine bl_set ?_ ?_ _))) <;> (first | done | (simp; done) | (simp; omega) | omega))) _ _ (HB.out.below (by (with_reducible (repeat' (first | exact Below.refl _ _ | assumption | apply bl_alloc | apply bl_drewN | apply bl_drew | refine bl_set ?_ ?_ _))) <;> (first | done | (simp; done) | (simp; omega) | omega))) (by rw [List.length_drop]; have := HX.out; omega)) ?_); rintro e w1 ⟨b1, cs, n, er, rfl, hcl, hone, hres⟩
        have HRes := Lib.hid hres; have HOne := Lib.hid hone
        clear hres hone
        have hB1 : Below w.heap.size w w1 := bl_then (by (with_reducible (repeat' (first | exact Below.refl _ _ | assumption | apply bl_alloc | apply bl_drewN | apply bl_drew | refine bl_set ?_ ?_ _))) <;> (first | done | (simp; done) | (simp; omega) | omega)) b1
        have hcx := (bcell hB1).1
        go_wp2_with fail
        refine hK.out _ _ ⟨(hcx _ 0 hGl).trans hG, (hcx _ 0 hRl).trans h0, (hcx _ 1 hRl).trans h1⟩ fun hS1 => ?_
        clear hS0 hcx
        (try dsimp only [Act.put]); (try simp only [List.setIfInBounds_toArray, List.set_cons_zero, List.set_cons_succ])
        (refine wpAnyH_take (i := 11) (v := ?_) rfl (by kernel_rfl) (by kernel_rfl) (by kernel_rfl) (fun _ _ _ h => h) (Or.inl ⟨by rfl, ?_⟩) (by assumption) ?_; rotate_left; (intro wq hSw; (try dsimp only at hSw); go_simp; (try with_reducible rfl)); rotate_left; (try dsimp only [Act.put]); (try simp only [List.setIfInBounds_toArray, List.set_cons_zero, List.set_cons_succ]))
        (refine wpAnyH_take (i := 12) (v := ?_) rfl (by kernel_rfl) (by kernel_rfl) (by kernel_rfl) (fun _ _ _ h => h) (Or.inl ⟨by rfl, ?_⟩) (by assumption) ?_; rotate_left; (intro wq hSw; (try dsimp only at hSw); go_simp; (try with_reducible rfl)); rotate_left; (try dsimp only [Act.put]); (try simp only [List.setIfInBounds_toArray, List.set_cons_zero, List.set_cons_succ]))
        (refine wpAnyH_take (i := 13) (v := ?_) rfl (by kernel_rfl) (by kernel_rfl) (by kernel_rfl) (fun _ _ _ h => h) (Or.inl ⟨by rfl, ?_⟩) (by assumption) ?_; rotate_left; (intro wq hSw; (try dsimp only at hSw); go_simp; (try with_reducible rfl)); rotate_left; (try dsimp only [Act.put]); (try simp only [List.setIfInBounds_toArray, List.set_cons_zero, List.set_cons_succ]))
        (refine wpAnyH_take (i := 14) (v := ?_) rfl (by kernel_rfl) (by kernel_rfl) (by kernel_rfl) (fun _ _ _ h => h) (Or.inl ⟨by rfl, ?_⟩) (by assumption) ?_; rotate_left; (intro wq hSw; (try dsimp only at hSw); go_simp; (try with_reducible rfl)); rotate_left; (try dsimp only [Act.put]); (try simp only [List.setIfInBounds_toArray, List.set_cons_zero, List.set_cons_succ]))
        refine wpAnyH_ready (rs := [15]) (by kernel_rfl) (by simp) ?_
        refine AllReadyH.cons rfl (fun K hK => ?_) AllReadyH.nil
        rw [if_pos (by rfl)]
        go_simp
        have oZ := OwnL.new (w := w1) (l := [Value.int .u32 0, .int .u32 0]) (t := 28)
        have hBz : Below w.heap.size w (w1.alloc (.cells [Value.int .u32 0, .int .u32 0].toArray 28)) := bl_alloc hB1 _
        refine hK.out _ _ ⟨((bcell hBz).1 _ 0 hGl).trans hG, ((bcell hBz).1 _ 0 hRl).trans h0, ((bcell hBz).1 _ 1 hRl).trans h1⟩ fun hS2 => ?_
        (try dsimp only [Act.put]); (try simp only [List.setIfInBounds_toArray, List.set_cons_zero, List.set_cons_succ])
        refine wpAnyH_ready (rs := [16]) (by kernel_rfl) (by simp) ?_
        refine AllReadyH.cons rfl (fun K hK => ?_) AllReadyH.nil
        rw [if_pos (by rfl)]
        have htz := oZ.there
        have hsz : cs.toArray.size = 2 := by rw [List.size_toArray, hcl]
        refine wp_store_mid _ _ _ rfl w1.heap.size 0 cs.toArray rfl rfl (by rw [hsz]; exact htz) (by rw [hsz]; kernel_rfl) (all_oneCell_toArray HOne.out) ?_
        have oY := oZ.sets (vs := cs) hcl
        have hBy : Below w.heap.size w ((w1.alloc (.cells [Value.int .u32 0, .int .u32 0].toArray 28)).setCells w1.heap.size 0 cs) := bl_setCells hBz hB1.size
        refine hK.out _ _ ⟨((bcell hBy).1 _ 0 hGl).trans hG, ((bcell hBy).1 _ 0 hRl).trans h0, ((bcell hBy).1 _ 1 hRl).trans h1⟩ fun hS3 => ?_
        (try dsimp only [Act.put]); (try simp only [List.setIfInBounds_toArray, List.set_cons_zero, List.set_cons_succ])
        (refine wpAnyH_take (i := 17) (v := ?_) rfl (by kernel_rfl) (by kernel_rfl) (by kernel_rfl) (fun _ _ _ h => h) (Or.inl ⟨by rfl, ?_⟩) (by assumption) ?_; rotate_left; (intro wq hSw; (try dsimp only at hSw); go_simp; (try with_reducible rfl)); rotate_left; (try dsimp only [Act.put]); (try simp only [List.setIfInBounds_toArray, List.set_cons_zero, List.set_cons_succ])); (try simp only [List.getElem_toArray, List.getElem_cons_succ, List.getElem_cons_zero]); (try dsimp only [Act.put]); (try simp only [List.setIfInBounds_toArray, List.set_cons_zero, List.set_cons_succ])
        (refine wpAnyH_take (i := 18) (v := ?_) rfl (by kernel_rfl) (by kernel_rfl) (by kernel_rfl) (fun _ _ _ h => h) (Or.inl ⟨by rfl, ?_⟩) (by assumption) ?_; rotate_left; (intro wq hSw; (try dsimp only at hSw); go_simp; (try with_reducible rfl)); rotate_left; (try dsimp only [Act.put]); (try simp only [List.setIfInBounds_toArray, List.set_cons_zero, List.set_cons_succ])); (try simp only [List.getElem_toArray, List.getElem_cons_succ, List.getElem_cons_zero]); (try dsimp only [Act.put]); (try simp only [List.setIfInBounds_toArray, List.set_cons_zero, List.set_cons_succ])
        refine wpAnyH_done (by kernel_rfl) ?_ _
        have hYs := hB1.size
        generalize (w1.alloc (.cells [Value.int .u32 0, .int .u32 0].toArray 28)).setCells w1.heap.size 0 cs = wy at *
        clear oZ htz hBz hS1 hS2 hS3
        go_wp2_with fail
        go_meet
        case rel => exact ⟨_, cs, n, er, rfl, rfl, rfl, hcl, HOne, oY, hYs, hBy, HRes⟩
      · -- the variable ahead of the call
        rw [if_pos (by rfl)]
        go_simp
        have oZ : OwnL (w.drew.alloc (.cells [Value.int .u32 0, .int .u32 0].toArray 28)) w.heap.size [Value.int .u32 0, .int .u32 0] := OwnL.new (w := w.drew) (l := [Value.int .u32 0, .int .u32 0]) (t := 28)
        have hBz : Below w.heap.size w (w.drew.alloc (.cells [Value.int .u32 0, .int .u32 0].toArray 28)) := by (with_reducible (repeat' (first | exact Below.refl _ _ | assumption | apply bl_alloc | apply bl_drewN | apply bl_drew | refine bl_set ?_ ?_ _))) <;> (first | done | (simp; done) | (simp; omega) | omega)
        refine hK.out _ _ ⟨((bcell hBz).1 _ 0 hGl).trans hG, ((bcell hBz).1 _ 0 hRl).trans h0, ((bcell hBz).1 _ 1 hRl).trans h1⟩ fun hS1 => ?_
        clear hS0
        (try dsimp only [Act.put]); (try simp only [List.setIfInBounds_toArray, List.set_cons_zero, List.set_cons_succ])
        refine wpAnyH_ready (rs := [10]) (by kernel_rfl) (by simp) ?_
        refine AllReadyH.cons rfl (fun K hK => ?_) AllReadyH.nil
        rw [if_pos (by rfl)]
        go_simp
        go_at_fn f; (refine Calls.mono (HC.out _ (HO.out.below (by (with_reducible (repeat' (first | exact Below.refl _ _ | assumption | apply bl_alloc | apply bl_drewN | apply bl_drew | refine bl_set ?_ ?_ _))) <;> (first | done | (simp; done) | (simp; omega) | omega))) _ _ (HB.out.below (by (with_reducible (repeat' (first | exact Below.refl _ _ | assumption | apply bl_alloc | apply bl_drewN | apply bl_drew | refine bl_set ?_ ?_ _))) <;> (first | done | (simp; done) | (simp; omega) | omega))) (by rw [List.length_drop]; have := HX.out; omega)) ?_); rintro e w1 ⟨b1, cs, n, er, rfl, hcl, hone, hres⟩
        have HRes := Lib.hid hres; have HOne := Lib.hid hone
        clear hres hone
        have hB1 : Below w.heap.size w w1 := bl_then (by (with_reducible (repeat' (first | exact Below.refl _ _ | assumption | apply bl_alloc | apply bl_drewN | apply bl_drew | refine bl_set ?_ ?_ _))) <;> (first | done | (simp; done) | (simp; omega) | omega)) b1
        have oZ := oZ.trk b1
        have hcx := (bcell hB1).1
        go_wp2_with fail
        refine hK.out _ _ ⟨(hcx _ 0 hGl).trans hG, (hcx _ 0 hRl).trans h0, (hcx _ 1 hRl).trans h1⟩ fun hS1 => ?_
        clear hcx
        (try dsimp only [Act.put]); (try simp only [List.setIfInBounds_toArray, List.set_cons_zero, List.set_cons_succ])
        (refine wpAnyH_take (i := 11) (v := ?_) rfl (by kernel_rfl) (by kernel_rfl) (by kernel_rfl) (fun _ _ _ h => h) (Or.inl ⟨by rfl, ?_⟩) (by assumption) ?_; rotate_left; (intro wq hSw; (try dsimp only at hSw); go_simp; (try with_reducible rfl)); rotate_left; (try dsimp only [Act.put]); (try simp only [List.setIfInBounds_toArray, List.set_cons_zero, List.set_cons_succ]))
        (refine wpAnyH_take (i := 12) (v := ?_) rfl (by kernel_rfl) (by kernel_rfl) (by kernel_rfl) (fun _ _ _ h => h) (Or.inl ⟨by rfl, ?_⟩) (by assumption) ?_; rotate_left; (intro wq hSw; (try dsimp only at hSw); go_simp; (try with_reducible rfl)); rotate_left; (try dsimp only [Act.put]); (try simp only [List.setIfInBounds_toArray, List.set_cons_zero, List.set_cons_succ]))
        (refine wpAnyH_take (i := 13) (v := ?_) rfl (by kernel_rfl) (by kernel_rfl) (by kernel_rfl) (fun _ _ _ h => h) (Or.inl ⟨by rfl, ?_⟩) (by assumption) ?_; rotate_left; (intro wq hSw; (try dsimp only at hSw); go_simp; (try with_reducible rfl)); rotate_left; (try dsimp only [Act.put]); (try simp only [List.setIfInBounds_toArray, List.set_cons_zero, List.set_cons_succ]))
        (refine wpAnyH_take (i := 14) (v := ?_) rfl (by kernel_rfl) (by kernel_rfl) (by kernel_rfl) (fun _ _ _ h => h) (Or.inl ⟨by rfl, ?_⟩) (by assumption) ?_; rotate_left; (intro wq hSw; (try dsimp only at hSw); go_simp; (try with_reducible rfl)); rotate_left; (try dsimp only [Act.put]); (try simp only [List.setIfInBounds_toArray, List.set_cons_zero, List.set_cons_succ]))
        refine wpAnyH_ready (rs := [16]) (by kernel_rfl) (by simp) ?_
        refine AllReadyH.cons rfl (fun K hK => ?_) AllReadyH.nil
        rw [if_pos (by rfl)]
        have htz := oZ.there
        have hsz : cs.toArray.size = 2 := by rw [List.size_toArray, hcl]
        refine wp_store_mid _ _ _ rfl w.heap.size 0 cs.toArray rfl rfl (by rw [hsz]; exact htz) (by rw [hsz]; kernel_rfl) (all_oneCell_toArray HOne.out) ?_
        have oY := oZ.sets (vs := cs) hcl
        have hBy : Below w.heap.size w (w1.setCells w.heap.size 0 cs) := bl_setCells hB1 (Nat.le_refl _)
        refine hK.out _ _ ⟨((bcell hBy).1 _ 0 hGl).trans hG, ((bcell hBy).1 _ 0 hRl).trans h0, ((bcell hBy).1 _ 1 hRl).trans h1⟩ fun hS3 => ?_
        (try dsimp only [Act.put]); (try simp only [List.setIfInBounds_toArray, List.set_cons_zero, List.set_cons_succ])
        (refine wpAnyH_take (i := 17) (v := ?_) rfl (by kernel_rfl) (by kernel_rfl) (by kernel_rfl) (fun _ _ _ h => h) (Or.inl ⟨by rfl, ?_⟩) (by assumption) ?_; rotate_left; (intro wq hSw; (try dsimp only at hSw); go_simp; (try with_reducible rfl)); rotate_left; (try dsimp only [Act.put]); (try simp only [List.setIfInBounds_toArray, List.set_cons_zero, List.set_cons_succ])); (try simp only [List.getElem_toArray, List.getElem_cons_succ, List.getElem_cons_zero]); (try dsimp only [Act.put]); (try simp only [List.setIfInBounds_toArray, List.set_cons_zero, List.set_cons_succ])
        (refine wpAnyH_take (i := 18) (v := ?_) rfl (by kernel_rfl) (by kernel_rfl) (by kernel_rfl) (fun _ _ _ h => h) (Or.inl ⟨by rfl, ?_⟩) (by assumption) ?_; rotate_left; (intro wq hSw; (try dsimp only at hSw); go_simp; (try with_reducible rfl)); rotate_left; (try dsimp only [Act.put]); (try simp only [List.setIfInBounds_toArray, List.set_cons_zero, List.set_cons_succ])); (try simp only [List.getElem_toArray, List.getElem_cons_succ, List.getElem_cons_zero]); (try dsimp only [Act.put]); (try simp only [List.setIfInBounds_toArray, List.set_cons_zero, List.set_cons_succ])
        refine wpAnyH_done (by kernel_rfl) ?_ _
        generalize w1.setCells w.heap.size 0 cs = wy at *
        clear oZ htz hBz hS1 hS3
        go_wp2_with fail
        go_meet
        case rel => exact ⟨_, cs, n, er, rfl, rfl, rfl, hcl, HOne, oY, Nat.le_refl _, hBy, HRes⟩
    case rest =>
      obtain ⟨Y, cs, nn, er, rfl, rfl, rfl, hcl, HOne, oY, hYl, hB1, HRes⟩ := hcut
      have q3 : wc.cell? ⟨X, 0, none⟩ = some (.pointer (some ⟨T, o, none⟩)) := ((bcell hB1).1 _ 0 hXl).trans hX
      have oR := HR.out.trk hB1
      have HRep1 := Lib.hid (HS.out.frR _ _ _ HRep.out (Only.ne_ _ hB1))
      have hYR : ¬ Y = R := by have := hRl; omega
      have hYT : ¬ Y = T := by have := (HF.out.has _ _ HRep.out).1; omega
      have r3 : wc.cell? ⟨R, 3, none⟩ = some (.int .i64 0) := oR.2.1 3
      have fR3 : wc.frozen? ⟨R, 3, none⟩ = false := oR.2.2 3
      have hR1 := oR.1
      clear h0 h1 h2 h3 hX hG
      rcases HRes.out with ⟨rfl, y, j, hp, rfl, hj, rfl, hwf⟩ | ⟨hner, hp⟩
      · have HPP := Lib.hid hp; have HJ := Lib.hid hj; have HW := Lib.hid hwf
        have HSz := Lib.hid (show (enc y).toArray.size = 2 by rw [List.size_toArray, hcl])
        clear hp hj hwf HRes
        go_upto_region 8 with fail
        have o1 : Only (· = R) wc (wc.setCell ⟨R, 3, none⟩ (.int .i64 0)) := (Only.refl (· = R) _).setCell (p := ⟨R, 3, none⟩) (.inr rfl) _
        have oR2 := oR.put 3 (.int .i64 0) (Nat.le_of_ble_eq_true rfl)
        have oY2 := oY.only o1 hYR
        have q4 : (wc.setCell ⟨R, 3, none⟩ (.int .i64 0)).cell? ⟨X, 0, none⟩ = some (.pointer (some ⟨T, o, none⟩)) := (o1.cell (a := ⟨X, 0, none⟩) (Nat.lt_of_lt_of_le hXl hB1.size) hXR).trans q3
        have oW : Only P w (wc.setCell ⟨R, 3, none⟩ (.int .i64 0)) := (Only.ne_ P hB1).then_ o1 (fun i _ e => by rw [e]; exact hRP)
        have HRep2 := Lib.hid (HS.out.frR _ _ _ HRep1.out o1)
        clear o1 r3 fR3 hR1 oR q3 HRep1 hB1 oY
        generalize wc.setCell ⟨R, 3, none⟩ (.int .i64 0) = w2 at *
        obtain ⟨hT1, htT⟩ := HF.out.has _ _ HRep2.out
        have HT := Lib.hid htT
        clear htT
        go_upto_region 9 with (first | (refine wpList_load_mid rfl 28 _ rfl Y 0 rfl (enc y) _ oY2.range Tryz.underlying28 rfl (by rw [hcl]; kernel_rfl) ?_) | (refine wpList_store_mid rfl 28 _ _ rfl T o (enc y).toArray rfl rfl (by rw [HSz.out]; exact HT.out) (by rw [HSz.out]; kernel_rfl) (all_oneCell_toArray HOne.out) ?_; (try simp only [List.toList_toArray])))
        have o1 : Only (· = T) w2 (w2.setCells T o (enc y)) := only_setCells
        have oR3 := oR2.only o1 (fun e => hne e.symm)
        have oW3 : Only P w (w2.setCells T o (enc y)) := oW.then_ o1 (fun i _ e => by rw [e]; exact hTP)
        have HRep3 := Lib.hid (HF.out.put _ _ _ HRep2.out HW.out)
        clear o1 oR2 q4 oW HRep2 hT1 HT oY2
        generalize w2.setCells T o (enc y) = w3 at *
        have r1 : w3.cell? ⟨R, 1, none⟩ = some (.int .i64 k) := oR3.2.1 1
        have fR1 : w3.frozen? ⟨R, 1, none⟩ = false := oR3.2.2 1
        have hR3 := oR3.1
        have hw := w64_at (k := k) (j := j) (Nat.le_trans HK.out HX.out) (by have hj := HJ.out; rw [List.length_drop] at hj; have := HX.out; omega)
        go_wp2
        go_end0
        have o4 : Only (· = R) w3 (w3.setCell ⟨R, 1, none⟩ (.int .i64 ((k + j : Nat) : Int))) := (Only.refl (· = R) _).setCell (p := ⟨R, 1, none⟩) (.inr rfl) _
        refine ⟨rfl, oW3.then_ o4 (fun i _ e => by rw [e]; exact hRP), set y s, k + j, 0, oR3.put 1 _ (Nat.le_of_ble_eq_true rfl), HS.out.frR _ _ _ HRep3.out o4, .inl ⟨j, ?_, rfl, ?_, rfl⟩⟩
        · rw [Ps.bind_ok_ok HPP.out (x := set y s) (m := 0) rfl]; rfl
        · have hj := HJ.out; rw [List.length_drop] at hj; have := HK.out; omega
      · have HPP := Lib.hid hp
        clear hp HRes
        go_wp2
        go_end0
        have o1 : Only (· = R) wc (wc.setCell ⟨R, 3, none⟩ (.int .i64 er)) := (Only.refl (· = R) _).setCell (p := ⟨R, 3, none⟩) (.inr rfl) _
        refine ⟨rfl, (Only.ne_ P hB1).then_ o1 (fun i _ e => by rw [e]; exact hRP), s, k, er, oR.put 3 _ (Nat.le_of_ble_eq_true rfl), HS.out.frR _ _ _ HRep1.out o1, .inr ⟨?_, hner⟩⟩
        rw [Ps.bind_error HPP.out]
end Go.Proofs.YtgmhapjidbdhnaaGreat
namespace Go.Proofs.YtgmhapjidbdhnaaGreat
open Go.RowKit
set_option maxRecDepth 100000 in
set_option maxHeartbeats 4000000 in
theorem ofSet_rd {σ α : Type} {Rep : World → σ → Prop} {R : Nat} {P : Nat → Prop} {w0 : World} {lo T o : Nat} {fv gv pv : Value} {p : Ps α} {enc : α → List Value} {wf : α → Prop} {set : α → σ → σ}
    (hS : RepR Rep R P) (hF : FldSM Rep R P T o 14 enc wf set) (hsh : OfShape 94 w0 lo fv gv pv T o) (hlo : ∀ i, lo ≤ i → i < w0.heap.size → ¬ P i) (hg : GetterM (Only P w0) gv p 14 enc wf) :
    ∃ cap, fv = .func (.func 94) #[] cap ∧ RdPart Rep R P w0 94 cap (fun s => Ps.bind p fun y => Ps.pure (set y s)) := by
  obtain ⟨X, G, Pb, rfl, a1, a2, a3, a4, a5, a6, c1, c2, c3⟩ := hsh.box
  refine ⟨_, rfl, fun args w => by kernel_rfl, fun w s v k e ho hRep he hR => ?_, fun w s v k xs ho hRep hR hb hv hk hx => ?_⟩
  · have h3 : w.cell? ⟨R, 3, none⟩ = some (.int .i64 e) := hR.2.1 3
    have hRl := hR.1
    have he2 : ¬ e = 0 := he
    have HR := Lib.hid hR; have HRep := Lib.hid hRep
    clear hR hRep ho he hlo hF hS hg hsh c1 c2 c3
    show Calls Tryz.prog 94 #[.pointer (some ⟨R, 0, none⟩), .pointer (some ⟨Pb, 0, none⟩), .pointer (some ⟨X, 0, none⟩), .pointer (some ⟨G, 0, none⟩)] w _
    go_enter Tryz.func94, Tryz.ntmps94
    go_wp2
    refine bodyPost_ret (results_none rfl _ _ _) rfl ?_
    exact ⟨rfl, Only.refl _ _, HR.out, _, HRep.out⟩
  · have hX : w.cell? ⟨X, 0, none⟩ = some (.pointer (some ⟨T, o, none⟩)) := (ho.cell (a := ⟨X, 0, none⟩) a2 (hlo _ a1 a2)).trans c1
    have hG : w.cell? ⟨G, 0, none⟩ = some gv := (ho.cell (a := ⟨G, 0, none⟩) a4 (hlo _ a3 a4)).trans c2
    have hXl : X < w.heap.size := Nat.lt_of_lt_of_le a2 ho.size
    have hGl : G < w.heap.size := Nat.lt_of_lt_of_le a4 ho.size
    have hXR : ¬ X = R := fun e => hlo _ a1 a2 (e ▸ hS.inR)
    have hPs : ∀ i, P i → i < w.heap.size := fun i hi => by
      by_cases hi2 : i = R
      · rw [hi2]; exact hR.1
      · exact hS.old _ _ hRep i hi hi2
    have h0 : w.cell? ⟨R, 0, none⟩ = some v := hR.2.1 0
    have h1 : w.cell? ⟨R, 1, none⟩ = some (.int .i64 k) := hR.2.1 1
    have h2 : w.cell? ⟨R, 2, none⟩ = some (.bool true) := hR.2.1 2
    have h3 : w.cell? ⟨R, 3, none⟩ = some (.int .i64 0) := hR.2.1 3
    have hRl := hR.1
    obtain ⟨f, cap, rfl, eg, hcall⟩ := hg
    have eg2 : ∀ (args : Array Value) (wx : World), (callFunc f args).run Tryz.prog wx = .ok (.enter f args) wx := eg
    obtain ⟨v', hb', hsl⟩ := hb.suffix hk
    have HB := Lib.hid hb'; have HX := Lib.hid hx; have HK := Lib.hid hk; have HPs := Lib.hid hPs
    have HC := Lib.hid hcall; have HO := Lib.hid ho; have HS := Lib.hid hS; have HF := Lib.hid hF; have HRep := Lib.hid hRep
    have HR := Lib.hid hR
    have hne := hF.ne; have hTP := hF.inP; have hRP := hS.inR
    clear hb hb' hk hx hv hPs hcall ho hS hF hRep hR eg hlo hsh c1 c2 c3 a1 a2 a3 a4 a5 a6
    show Calls Tryz.prog 94 #[.pointer (some ⟨R, 0, none⟩), .pointer (some ⟨Pb, 0, none⟩), .pointer (some ⟨X, 0, none⟩), .pointer (some ⟨G, 0, none⟩)] w _
    go_enter Tryz.func94, Tryz.ntmps94
    go_upto_region 5 with fail
    go_cut [7, 8, 9] from 10 (fun y n e wx => ∃ Y cs, ∃ nn er : Int, y = .pointer (some ⟨Y, 0, none⟩) ∧ n = .int .i64 nn ∧ e = .int .i64 er ∧ cs.length = 14 ∧ Hid (∀ v ∈ cs, v.oneCell' = true) ∧ OwnL wx Y cs ∧ w.heap.size ≤ Y ∧ Below w.heap.size w wx ∧
      Hid ((er = 0 ∧ ∃ y j, p (xs.drop k) = .ok (y, j) ∧ nn = (j : Nat) ∧ j ≤ (xs.drop k).length ∧ cs = enc y ∧ wf y) ∨ (er ≠ 0 ∧ p (xs.drop k) = .error er)))
    case first =>
      refine wp_region_held_drew (S := fun wq => wq.cell? ⟨G, 0, none⟩ = some (.func (.func f) #[] cap) ∧ wq.cell? ⟨R, 0, none⟩ = some v ∧ wq.cell? ⟨R, 1, none⟩ = some (.int .i64 k)) rfl ⟨hG, h0, h1⟩ fun hS0 => ?_
      (refine wpAnyH_take (i := 0) (v := ?_) rfl (by kernel_rfl) (by kernel_rfl) (by kernel_rfl) (fun _ _ _ h => h) (Or.inl ⟨by rfl, ?_⟩) (by assumption) ?_; rotate_left; (intro wq hSw; (try dsimp only at hSw); go_simp; (try with_reducible rfl)); rotate_left; (try dsimp only [Act.put]); (try simp only [List.setIfInBounds_toArray, List.set_cons_zero, List.set_cons_succ]))
      (refine wpAnyH_take (i := 1) (v := ?_) rfl (by kernel_rfl) (by kernel_rfl) (by kernel_rfl) (fun _ _ _ h => h) (Or.inl ⟨by rfl, ?_⟩) (by assumption) ?_; rotate_left; (intro wq hSw; (try dsimp only at hSw); go_simp; (try with_reducible rfl)); rotate_left; (try dsimp only [Act.put]); (try simp only [List.setIfInBounds_toArray, List.set_cons_zero, List.set_cons_succ]))
      (refine wpAnyH_take (i := 2) (v := ?_) rfl (by kernel_rfl) (by kernel_rfl) (by kernel_rfl) (fun _ _ _ h => h) (Or.inl ⟨by rfl, ?_⟩) (by assumption) ?_; rotate_left; (intro wq hSw; (try dsimp only at hSw); go_simp; (try with_reducible rfl)); rotate_left; (try dsimp only [Act.put]); (try simp only [List.setIfInBounds_toArray, List.set_cons_zero, List.set_cons_succ]))
      (refine wpAnyH_take (i := 3) (v := ?_) rfl (by kernel_rfl) (by kernel_rfl) (by kernel_rfl) (fun _ _ _ h => h) (Or.inl ⟨by rfl, ?_⟩) (by assumption) ?_; rotate_left; (intro wq hSw; (try dsimp only at hSw); go_simp; (try with_reducible rfl)); rotate_left; (try dsimp only [Act.put]); (try simp only [List.setIfInBounds_toArray, List.set_cons_zero, List.set_cons_succ]))
      (refine wpAnyH_take (i := 4) (v := ?_) rfl (by kernel_rfl) (by kernel_rfl) (by kernel_rfl) (fun _ _ _ h => h) (Or.inl ⟨by rfl, ?_⟩) (by assumption) ?_; rotate_left; (intro wq hSw; (try dsimp only at hSw); go_simp; (try with_reducible rfl)); rotate_left; (try dsimp only [Act.put]); (try simp only [List.setIfInBounds_toArray, List.set_cons_zero, List.set_cons_succ]))
      (refine wpAnyH_take (i := 5) (v := ?_) rfl (by kernel_rfl) (by kernel_rfl) (by kernel_rfl) (fun _ _ _ h => h) (Or.inl ⟨by rfl, ?_⟩) (by assumption) ?_; rotate_left; (intro wq hSw; (try dsimp only at hSw); go_simp; (try with_reducible rfl)); rotate_left; (try dsimp only [Act.put]); (try simp only [List.setIfInBounds_toArray, List.set_cons_zero, List.set_cons_succ]))
      (refine wpAnyH_take (i := 6) (v := ?_) rfl (by kernel_rfl) (by kernel_rfl) (by kernel_rfl) (fun _ _ _ h => h) (Or.inl ⟨by rfl, ?_⟩) (by assumption) ?_; rotate_left; (intro wq hSw; (try dsimp only at hSw); go_simp; (try with_reducible rfl)); rotate_left; (try dsimp only [Act.put]); (try simp only [List.setIfInBounds_toArray, List.set_cons_zero, List.set_cons_succ]))
      (refine wpAnyH_take (i := 7) (v := ?_) rfl (by kernel_rfl) (by kernel_rfl) (by kernel_rfl) (fun _ _ _ h => h) (Or.inl ⟨by rfl, ?_⟩) (by assumption) ?_; rotate_left; (intro wq hSw; (try dsimp only at hSw); go_simp; (try with_reducible rfl)); rotate_left; (try dsimp only [Act.put]); (try simp only [List.setIfInBounds_toArray, List.set_cons_zero, List.set_cons_succ]))
      (refine wpAnyH_take (i := 8) (v := ?_) rfl (by kernel_rfl) (by kernel_rfl) (by kernel_rfl) (fun _ _ _ h => h) (Or.inl ⟨by rfl, ?_⟩) (by assumption) ?_; rotate_left; (intro wq hSw; (try dsimp only at hSw); go_simp; (try with_reducible rfl)); rotate_left; (try dsimp only [Act.put]); (try simp only [List.setIfInBounds_toArray, List.set_cons_zero, List.set_cons_succ]))
      (refine wpAnyH_take (i := 9) (v := ?_) rfl (by kernel_rfl) (by kernel_rfl) (by kernel_rfl) (fun _ _ _ h => h) (Or.inl ⟨by rfl, ?_⟩) (by assumption) ?_; rotate_left; (intro wq hSw; (try dsimp only at hSw); go_simp; (try with_reducible rfl)); rotate_left; (try dsimp only [Act.put]); (try simp only [List.setIfInBounds_toArray, List.set_cons_zero, List.set_cons_succ]))
      refine wpAnyH_ready (rs := [10, 15]) (by kernel_rfl) (by simp) ?_
      refine AllReadyH.cons rfl (fun K hK => ?_) (AllReadyH.cons rfl (fun K hK => ?_) AllReadyH.nil)
      · -- the call ahead of the variable
        rw [if_pos (by rfl)]
        go_simp
        go_at_fn f; (refine Calls.mono (HC.out _ (HO.out.below (by (with_reducible (repeat' (first | exact Below.refl _ _ | assumption | apply bl_alloc | apply bl_drewN | apply bl_drew | refine bl_set ?_ ?_ _))) <;> (first | done | (simp; done) | (simp; omega) | omega))) _ _ (HB.out.below (by (with_reducible (repeat' (first | exact Below.refl _ _ | assumption | apply bl_alloc | apply bl_drewN | apply bl_drew | refine bl_set ?_ ?_ _))) <;> (first | done | (simp; done) | (simp; omega) | omega))) (by rw [List.length_drop]; have := HX.out; omega)) ?_); rintro e w1 ⟨b1, cs, n, er, rfl, hcl, hone, hres⟩
        have HRes := Lib.hid hres; have HOne := Lib.hid hone
        clear hres hone
        have hB1 : Below w.heap.size w w1 := bl_then (by (with_reducible (repeat' (first | exact Below.refl _ _ | assumption | apply bl_alloc | apply bl_drewN | apply bl_drew | refine bl_set ?_ ?_ _))) <;> (first | done | (simp; done) | (simp; omega) | omega)) b1
        have hcx := (bcell hB1).1
        go_wp2_with fail
        refine hK.out _ _ ⟨(hcx _ 0 hGl).trans hG, (hcx _ 0 hRl).trans h0, (hcx _ 1 hRl).trans h1⟩ fun hS1 => ?_
        clear hS0 hcx
        (try dsimp only [Act.put]); (try simp only [List.setIfInBounds_toArray, List.set_cons_zero, List.set_cons_succ])
        (refine wpAnyH_take (i := 11) (v := ?_) rfl (by kernel_rfl) (by kernel_rfl) (by kernel_rfl) (fun _ _ _ h => h) (Or.inl ⟨by rfl, ?_⟩) (by assumption) ?_; rotate_left; (intro wq hSw; (try dsimp only at hSw); go_simp; (try with_reducible rfl)); rotate_left; (try dsimp only [Act.put]); (try simp only [List.setIfInBounds_toArray, List.set_cons_zero, List.set_cons_succ]))
        (refine wpAnyH_take (i := 12) (v := ?_) rfl (by kernel_rfl) (by kernel_rfl) (by kernel_rfl) (fun _ _ _ h => h) (Or.inl ⟨by rfl, ?_⟩) (by assumption) ?_; rotate_left; (intro wq hSw; (try dsimp only at hSw); go_simp; (try with_reducible rfl)); rotate_left; (try dsimp only [Act.put]); (try simp only [List.setIfInBounds_toArray, List.set_cons_zero, List.set_cons_succ]))
        (refine wpAnyH_take (i := 13) (v := ?_) rfl (by kernel_rfl) (by kernel_rfl) (by kernel_rfl) (fun _ _ _ h => h) (Or.inl ⟨by rfl, ?_⟩) (by assumption) ?_; rotate_left; (intro wq hSw; (try dsimp only at hSw); go_simp; (try with_reducible rfl)); rotate_left; (try dsimp only [Act.put]); (try simp only [List.setIfInBounds_toArray, List.set_cons_zero, List.set_cons_succ]))
        (refine wpAnyH_take (i := 14) (v := ?_) rfl (by kernel_rfl) (by kernel_rfl) (by kernel_rfl) (fun _ _ _ h => h) (Or.inl ⟨by rfl, ?_⟩) (by assumption) ?_; rotate_left; (intro wq hSw; (try dsimp only at hSw); go_simp; (try with_reducible rfl)); rotate_left; (try dsimp only [Act.put]); (try simp only [List.setIfInBounds_toArray, List.set_cons_zero, List.set_cons_succ]))
        refine wpAnyH_ready (rs := [15]) (by kernel_rfl) (by simp) ?_
        refine AllReadyH.cons rfl (fun K hK => ?_) AllReadyH.nil
        rw [if_pos (by rfl)]
        go_simp
        have oZ := OwnL.new (w := w1) (l := [Value.bool false, .int .u32 0, .bool false, .int .u32 0, .bool false, .int .u32 0, .bool false, .int .u64 0, .int .u32 0, .int .u32 0, .int .u32 0, .int .u32 0, .int .u32 0, .int .u32 0]) (t := 30)
        have hBz : Below w.heap.size w (w1.alloc (.cells [Value.bool false, .int .u32 0, .bool false, .int .u32 0, .bool false, .int .u32 0, .bool false, .int .u64 0, .int .u32 0, .int .u32 0, .int .u32 0, .int .u32 0, .int .u32 0, .int .u32 0].toArray 30)) := bl_alloc hB1 _
        refine hK.out _ _ ⟨((bcell hBz).1 _ 0 hGl).trans hG, ((bcell hBz).1 _ 0 hRl).trans h0, ((bcell hBz).1 _ 1 hRl).trans h1⟩ fun hS2 => ?_
        (try dsimp only [Act.put]); (try simp only [List.setIfInBounds_toArray, List.set_cons_zero, List.set_cons_succ])
        refine wpAnyH_ready (rs := [16]) (by kernel_rfl) (by simp) ?_
        refine AllReadyH.cons rfl (fun K hK => ?_) AllReadyH.nil
        rw [if_pos (by rfl)]
        have htz := oZ.there
        have hsz : cs.toArray.size = 14 := by rw [List.size_toArray, hcl]
        refine wp_store_mid _ _ _ rfl w1.heap.size 0 cs.toArray rfl rfl (by rw [hsz]; exact htz) (by rw [hsz]; kernel_rfl) (all_oneCell_toArray HOne.out) ?_
        have oY := oZ.sets (vs := cs) hcl
        have hBy : Below w.heap.size w ((w1.alloc (.cells [Value.bool false, .int .u32 0, .bool false, .int .u32 0, .bool false, .int .u32 0, .bool false, .int .u64 0, .int .u32 0, .int .u32 0, .int .u32 0, .int .u32 0, .int .u32 0, .int .u32 0].toArray 30)).setCells w1.heap.size 0 cs) := bl_setCells hBz hB1.size
        refine hK.out _ _ ⟨((bcell hBy).1 _ 0 hGl).trans hG, ((bcell hBy).1 _ 0 hRl).trans h0, ((bcell hBy).1 _ 1 hRl).trans h1⟩ fun hS3 => ?_
        (try dsimp only [Act.put]); (try simp only [List.setIfInBounds_toArray, List.set_cons_zero, List.set_cons_succ])
        (refine wpAnyH_take (i := 17) (v := ?_) rfl (by kernel_rfl) (by kernel_rfl) (by kernel_rfl) (fun _ _ _ h => h) (Or.inl ⟨by rfl, ?_⟩) (by assumption) ?_; rotate_left; (intro wq hSw; (try dsimp only at hSw); go_simp; (try with_reducible rfl)); rotate_left; (try dsimp only [Act.put]); (try simp only [List.setIfInBounds_toArray, List.set_cons_zero, List.set_cons_succ])); (try simp only [List.getElem_toArray, List.getElem_cons_succ, List.getElem_cons_zero]); (try dsimp only [Act.put]); (try simp only [List.setIfInBounds_toArray, List.set_cons_zero, List.set_cons_succ])
        (refine wpAnyH_take (i := 18) (v := ?_) rfl (by kernel_rfl) (by kernel_rfl) (by kernel_rfl) (fun _ _ _ h => h) (Or.inl ⟨by rfl, ?_⟩) (by assumption) ?_; rotate_left; (intro wq hSw; (try dsimp only at hSw); go_simp; (try with_reducible rfl)); rotate_left; (try dsimp only [Act.put]); (try simp only [List.setIfInBounds_toArray, List.set_cons_zero, List.set_cons_succ])); (try simp only [List.getElem_toArray, List.getElem_cons_succ, List.getElem_cons_zero]); (try dsimp only [Act.put]); (try simp only [List.setIfInBounds_toArray, List.set_cons_zero, List.set_cons_succ])
        refine wpAnyH_done (by kernel_rfl) ?_ _
        have hYs := hB1.size
        generalize (w1.alloc (.cells [Value.bool false, .int .u32 0, .bool false, .int .u32 0, .bool false, .int .u32 0, .bool false, .int .u64 0, .int .u32 0, .int .u32 0, .int .u32 0, .int .u32 0, .int .u32 0, .int .u32 0].toArray 30)).setCells w1.heap.size 0 cs = wy at *
        clear oZ htz hBz hS1 hS2 hS3
        go_wp2_with fail
        go_meet
        case rel => exact ⟨_, cs, n, er, rfl, rfl, rfl, hcl, HOne, oY, hYs, hBy, HRes⟩
      · -- the variable ahead of the call
        rw [if_pos (by rfl)]
        go_simp
        have oZ : OwnL (w.drew.alloc (.cells [Value.bool false, .int .u32 0, .bool false, .int .u32 0, .bool false, .int .u32 0, .bool false, .int .u64 0, .int .u32 0, .int .u32 0, .int .u32 0, .int .u32 0, .int .u32 0, .int .u32 0].toArray 30)) w.heap.size [Value.bool false, .int .u32 0, .bool false, .int .u32 0, .bool false, .int .u32 0, .bool false, .int .u64 0, .int .u32 0, .int .u32 0, .int .u32 0, .int .u32 0, .int .u32 0, .int .u32 0] := OwnL.new (w := w.drew) (l := [Value.bool false, .int .u32 0, .bool false, .int .u32 0, .bool false, .int .u32 0, .bool false, .int .u64 0, .int .u32 0, .int .u32 0, .int .u32 0, .int .u32 0, .int .u32 0, .int .u32 0]) (t := 30)
        have hBz : Below w.heap.size w (w.drew.alloc (.cells [Value.bool false, .int .u32 0, .bool false, .int .u32 0, .bool false, .int .u32 0, .bool false, .int .u64 0, .int .u32 0, .int .u32 0, .int .u32 0, .int .u32 0, .int .u32 0, .int .u32 0].toArray 30)) := by (with_reducible (repeat' (first | exact Below.refl _ _ | assumption | apply bl_alloc | apply bl_drewN | apply bl_drew | refine bl_set ?_ ?_ _))) <;> (first | done | (simp; done) | (simp; omega) | omega)
        refine hK.out _ _ ⟨((bcell hBz).1 _ 0 hGl).trans hG, ((bcell hBz).1 _ 0 hRl).trans h0, ((bcell hBz).1 _ 1 hRl).trans h1⟩ fun hS1 => ?_
        clear hS0
        (try dsimp only [Act.put]); (try simp only [List.setIfInBounds_toArray, List.set_cons_zero, List.set_cons_succ])
        refine wpAnyH_ready (rs := [10]) (by kernel_rfl) (by simp) ?_
        refine AllReadyH.cons rfl (fun K hK => ?_) AllReadyH.nil
        rw [if_pos (by rfl)]
        go_simp
        go_at_fn f; (refine Calls.mono (HC.out _ (HO.out.below (by (with_reducible (repeat' (first | exact Below.refl _ _ | assumption | apply bl_alloc | apply bl_drewN | apply bl_drew | refine bl_set ?_ ?_ _))) <;> (first | done | (simp; done) | (simp; omega) | omega))) _ _ (HB.out.below (by (with_reducible (repeat' (first | exact Below.refl _ _ | assumption | apply bl_alloc | apply bl_drewN | apply bl_drew | refine bl_set ?_ ?_ _))) <;> (first | done | (simp; done) | (simp; omega) | omega))) (by rw [List.length_drop]; have := HX.out; omega)) ?_); rintro e w1 ⟨b1, cs, n, er, rfl, hcl, hone, hres⟩
        have HRes := Lib.hid hres; have HOne := Lib.hid hone
        clear hres hone
        have hB1 : Below w.heap.size w w1 := bl_then (by (with_reducible (repeat' (first | exact Below.refl _ _ | assumption | apply bl_alloc | apply bl_drewN | apply bl_drew | refine bl_set ?_ ?_ _))) <;> (first | done | (simp; done) | (simp; omega) | omega)) b1
        have oZ := oZ.trk b1
        have hcx := (bcell hB1).1
        go_wp2_with fail
        refine hK.out _ _ ⟨(hcx _ 0 hGl).trans hG, (hcx _ 0 hRl).trans h0, (hcx _ 1 hRl).trans h1⟩ fun hS1 => ?_
        clear hcx
        (try dsimp only [Act.put]); (try simp only [List.setIfInBounds_toArray, List.set_cons_zero, List.set_cons_succ])
        (refine wpAnyH_take (i := 11) (v := ?_) rfl (by kernel_rfl) (by kernel_rfl) (by kernel_rfl) (fun _ _ _ h => h) (Or.inl ⟨by rfl, ?_⟩) (by assumption) ?_; rotate_left; (intro wq hSw; (try dsimp only at hSw); go_simp; (try with_reducible rfl)); rotate_left; (try dsimp only [Act.put]); (try simp only [List.setIfInBounds_toArray, List.set_cons_zero, List.set_cons_succ]))
        (refine wpAnyH_take (i := 12) (v := ?_) rfl (by kernel_rfl) (by kernel_rfl) (by kernel_rfl) (fun _ _ _ h => h) (Or.inl ⟨by rfl, ?_⟩) (by assumption) ?_; rotate_left; (intro wq hSw; (try dsimp only at hSw); go_simp; (try with_reducible rfl)); rotate_left; (try dsimp only [Act.put]); (try simp only [List.setIfInBounds_toArray, List.set_cons_zero, List.set_cons_succ]))
        (refine wpAnyH_take (i := 13) (v := ?_) rfl (by kernel_rfl) (by kernel_rfl) (by kernel_rfl) (fun _ _ _ h => h) (Or.inl ⟨by rfl, ?_⟩) (by assumption) ?_; rotate_left; (intro wq hSw; (try dsimp only at hSw); go_simp; (try with_reducible rfl)); rotate_left; (try dsimp only [Act.put]); (try simp only [List.setIfInBounds_toArray, List.set_cons_zero, List.set_cons_succ]))
        (refine wpAnyH_take (i := 14) (v := ?_) rfl (by kernel_rfl) (by kernel_rfl) (by kernel_rfl) (fun _ _ _ h => h) (Or.inl ⟨by rfl, ?_⟩) (by assumption) ?_; rotate_left; (intro wq hSw; (try dsimp only at hSw); go_simp; (try with_reducible rfl)); rotate_left; (try dsimp only [Act.put]); (try simp only [List.setIfInBounds_toArray, List.set_cons_zero, List.set_cons_succ]))
        refine wpAnyH_ready (rs := [16]) (by kernel_rfl) (by simp) ?_
        refine AllReadyH.cons rfl (fun K hK => ?_) AllReadyH.nil
        rw [if_pos (by rfl)]
        have htz := oZ.there
        have hsz : cs.toArray.size = 14 := by rw [List.size_toArray, hcl]
        refine wp_store_mid _ _ _ rfl w.heap.size 0 cs.toArray rfl rfl (by rw [hsz]; exact htz) (by rw [hsz]; kernel_rfl) (all_oneCell_toArray HOne.out) ?_
        have oY := oZ.sets (vs := cs) hcl
        have hBy : Below w.heap.size w (w1.setCells w.heap.size 0 cs) := bl_setCells hB1 (Nat.le_refl _)
        refine hK.out _ _ ⟨((bcell hBy).1 _ 0 hGl).trans hG, ((bcell hBy).1 _ 0 hRl).trans h0, ((bcell hBy).1 _ 1 hRl).trans h1⟩ fun hS3 => ?_
        (try dsimp only [Act.put]); (try simp only [List.setIfInBounds_toArray, List.set_cons_zero, List.set_cons_succ])
        (refine wpAnyH_take (i := 17) (v := ?_) rfl (by kernel_rfl) (by kernel_rfl) (by kernel_rfl) (fun _ _ _ h => h) (Or.inl ⟨by rfl, ?_⟩) (by assumption) ?_; rotate_left; (intro wq hSw; (try dsimp only at hSw); go_simp; (try with_reducible rfl)); rotate_left; (try dsimp only [Act.put]); (try simp only [List.setIfInBounds_toArray, List.set_cons_zero, List.set_cons_succ])); (try simp only [List.getElem_toArray, List.getElem_cons_succ, List.getElem_cons_zero]); (try dsimp only [Act.put]); (try simp only [List.setIfInBounds_toArray, List.set_cons_zero, List.set_cons_succ])
        (refine wpAnyH_take (i := 18) (v := ?_) rfl (by kernel_rfl) (by kernel_rfl) (by kernel_rfl) (fun _ _ _ h => h) (Or.inl ⟨by rfl, ?_⟩) (by assumption) ?_; rotate_left; (intro wq hSw; (try dsimp only at hSw); go_simp; (try with_reducible rfl)); rotate_left; (try dsimp only [Act.put]); (try simp only [List.setIfInBounds_toArray, List.set_cons_zero, List.set_cons_succ])); (try simp only [List.getElem_toArray, List.getElem_cons_succ, List.getElem_cons_zero]); (try dsimp only [Act.put]); (try simp only [List.setIfInBounds_toArray, List.set_cons_zero, List.set_cons_succ])
        refine wpAnyH_done (by kernel_rfl) ?_ _
        generalize w1.setCells w.heap.size 0 cs = wy at *
        clear oZ htz hBz hS1 hS3
        go_wp2_with fail
        go_meet
        case rel => exact ⟨_, cs, n, er, rfl, rfl, rfl, hcl, HOne, oY, Nat.le_refl _, hBy, HRes⟩
    case rest =>
      obtain ⟨Y, cs, nn, er, rfl, rfl, rfl, hcl, HOne, oY, hYl, hB1, HRes⟩ := hcut
      have q3 : wc.cell? ⟨X, 0, none⟩ = some (.pointer (some ⟨T, o, none⟩)) := ((bcell hB1).1 _ 0 hXl).trans hX
      have oR := HR.out.trk hB1
      have HRep1 := Lib.hid (HS.out.frR _ _ _ HRep.out (Only.ne_ _ hB1))
      have hYR : ¬ Y = R := by have := hRl; omega
      have hYT : ¬ Y = T := by have := (HF.out.has _ _ HRep.out).1; omega
      have r3 : wc.cell? ⟨R, 3, none⟩ = some (.int .i64 0) := oR.2.1 3
      have fR3 : wc.frozen? ⟨R, 3, none⟩ = false := oR.2.2 3
      have hR1 := oR.1
      clear h0 h1 h2 h3 hX hG
      rcases HRes.out with ⟨rfl, y, j, hp, rfl, hj, rfl, hwf⟩ | ⟨hner, hp⟩
      · have HPP := Lib.hid hp; have HJ := Lib.hid hj; have HW := Lib.hid hwf
        have HSz := Lib.hid (show (enc y).toArray.size = 14 by rw [List.size_toArray, hcl])
        clear hp hj hwf HRes
        go_upto_region 8 with fail
        have o1 : Only (· = R) wc (wc.setCell ⟨R, 3, none⟩ (.int .i64 0)) := (Only.refl (· = R) _).setCell (p := ⟨R, 3, none⟩) (.inr rfl) _
        have oR2 := oR.put 3 (.int .i64 0) (Nat.le_of_ble_eq_true rfl)
        have oY2 := oY.only o1 hYR
        have q4 : (wc.setCell ⟨R, 3, none⟩ (.int .i64 0)).cell? ⟨X, 0, none⟩ = some (.pointer (some ⟨T, o, none⟩)) := (o1.cell (a := ⟨X, 0, none⟩) (Nat.lt_of_lt_of_le hXl hB1.size) hXR).trans q3
        have oW : Only P w (wc.setCell ⟨R, 3, none⟩ (.int .i64 0)) := (Only.ne_ P hB1).then_ o1 (fun i _ e => by rw [e]; exact hRP)
        have HRep2 := Lib.hid (HS.out.frR _ _ _ HRep1.out o1)
        clear o1 r3 fR3 hR1 oR q3 HRep1 hB1 oY
        generalize wc.setCell ⟨R, 3, none⟩ (.int .i64 0) = w2 at *
        obtain ⟨hT1, htT⟩ := HF.out.has _ _ HRep2.out
        have HT := Lib.hid htT
        clear htT
        go_upto_region 9 with (first | (refine wpList_load_mid rfl 30 _ rfl Y 0 rfl (enc y) _ oY2.range Tryz.underlying30 rfl (by rw [hcl]; kernel_rfl) ?_) | (refine wpList_store_mid rfl 30 _ _ rfl T o (enc y).toArray rfl rfl (by rw [HSz.out]; exact HT.out) (by rw [HSz.out]; kernel_rfl) (all_oneCell_toArray HOne.out) ?_; (try simp only [List.toList_toArray])))
        have o1 : Only (· = T) w2 (w2.setCells T o (enc y)) := only_setCells
        have oR3 := oR2.only o1 (fun e => hne e.symm)
        have oW3 : Only P w (w2.setCells T o (enc y)) := oW.then_ o1 (fun i _ e => by rw [e]; exact hTP)
        have HRep3 := Lib.hid (HF.out.put _ _ _ HRep2.out HW.out)
        clear o1 oR2 q4 oW HRep2 hT1 HT oY2
        generalize w2.setCells T o (enc y) = w3 at *
        have r1 : w3.cell? ⟨R, 1, none⟩ = some (.int .i64 k) := oR3.2.1 1
        have fR1 : w3.frozen? ⟨R, 1, none⟩ = false := oR3.2.2 1
        have hR3 := oR3.1
        have hw := w64_at (k := k) (j := j) (Nat.le_trans HK.out HX.out) (by have hj := HJ.out; rw [List.length_drop] at hj; have := HX.out; omega)
        go_wp2
        go_end0
        have o4 : Only (· = R) w3 (w3.setCell ⟨R, 1, none⟩ (.int .i64 ((k + j : Nat) : Int))) := (Only.refl (· = R) _).setCell (p := ⟨R, 1, none⟩) (.inr rfl) _
        refine ⟨rfl, oW3.then_ o4 (fun i _ e => by rw [e]; exact hRP), set y s, k + j, 0, oR3.put 1 _ (Nat.le_of_ble_eq_true rfl), HS.out.frR _ _ _ HRep3.out o4, .inl ⟨j, ?_, rfl, ?_, rfl⟩⟩
        · rw [Ps.bind_ok_ok HPP.out (x := set y s) (m := 0) rfl]; rfl
        · have hj := HJ.out; rw [List.length_drop] at hj; have := HK.out; omega
      · have HPP := Lib.hid hp
        clear hp HRes
        go_wp2
        go_end0
        have o1 : Only (· = R) wc (wc.setCell ⟨R, 3, none⟩ (.int .i64 er)) := (Only.refl (· = R) _).setCell (p := ⟨R, 3, none⟩) (.inr rfl) _
        refine ⟨rfl, (Only.ne_ P hB1).then_ o1 (fun i _ e => by rw [e]; exact hRP), s, k, er, oR.put 3 _ (Nat.le_of_ble_eq_true rfl), HS.out.frR _ _ _ HRep1.out o1, .inr ⟨?_, hner⟩⟩
        rw [Ps.bind_error HPP.out]
end Go.Proofs.YtgmhapjidbdhnaaGreat
namespace Go.Proofs.YtgmhapjidbdhnaaGreat
open Go.RowKit
set_option maxRecDepth 100000 in
set_option maxHeartbeats 4000000 in
theorem ofV_rd {σ α : Type} {Rep : World → σ → Prop} {R : Nat} {P : Nat → Prop} {w0 : World} {lo T o : Nat} {fv gv pv : Value} {p : Ps α} {enc : α → List Value} {wf : α → Prop} {set : α → σ → σ}
    (hS : RepR Rep R P) (hF : FldSM Rep R P T o 8 enc wf set) (hsh : OfShape 109 w0 lo fv gv pv T o) (hlo : ∀ i, lo ≤ i → i < w0.heap.size → ¬ P i) (hg : GetterM (Only P w0) gv p 8 enc wf) :
    ∃ cap, fv = .func (.func 109) #[] cap ∧ RdPart Rep R P w0 109 cap (fun s => Ps.bind p fun y => Ps.pure (set y s)) := by
  obtain ⟨X, G, Pb, rfl, a1, a2, a3, a4, a5, a6, c1, c2, c3⟩ := hsh.box
  refine ⟨_, rfl, fun args w => by kernel_rfl, fun w s v k e ho hRep he hR => ?_, fun w s v k xs ho hRep hR hb hv hk hx => ?_⟩
  · have h3 : w.cell? ⟨R, 3, none⟩ = some (.int .i64 e) := hR.2.1 3
    have hRl := hR.1
    have he2 : ¬ e = 0 := he
    have HR := Lib.hid hR; have HRep := Lib.hid hRep
    clear hR hRep ho he hlo hF hS hg hsh c1 c2 c3
    show Calls Tryz.prog 109 #[.pointer (some ⟨R, 0, none⟩), .pointer (some ⟨Pb, 0, none⟩), .pointer (some ⟨X, 0, none⟩), .pointer (some ⟨G, 0, none⟩)] w _
    go_enter Tryz.func109, Tryz.ntmps109
    go_wp2
    refine bodyPost_ret (results_none rfl _ _ _) rfl ?_
    exact ⟨rfl, Only.refl _ _, HR.out, _, HRep.out⟩
  · have hX : w.cell? ⟨X, 0, none⟩ = some (.pointer (some ⟨T, o, none⟩)) := (ho.cell (a := ⟨X, 0, none⟩) a2 (hlo _ a1 a2)).trans c1
    have hG : w.cell? ⟨G, 0, none⟩ = some gv := (ho.cell (a := ⟨G, 0, none⟩) a4 (hlo _ a3 a4)).trans c2
    have hXl : X < w.heap.size := Nat.lt_of_lt_of_le a2 ho.size
    have hGl : G < w.heap.size := Nat.lt_of_lt_of_le a4 ho.size
    have hXR : ¬ X = R := fun e => hlo _ a1 a2 (e ▸ hS.inR)
    have hPs : ∀ i, P i → i < w.heap.size := fun i hi => by
      by_cases hi2 : i = R
      · rw [hi2]; exact hR.1
      · exact hS.old _ _ hRep i hi hi2
    have h0 : w.cell? ⟨R, 0, none⟩ = some v := hR.2.1 0
    have h1 : w.cell? ⟨R, 1, none⟩ = some (.int .i64 k) := hR.2.1 1
    have h2 : w.cell? ⟨R, 2, none⟩ = some (.bool true) := hR.2.1 2
    have h3 : w.cell? ⟨R, 3, none⟩ = some (.int .i64 0) := hR.2.1 3
    have hRl := hR.1
    obtain ⟨f, cap, rfl, eg, hcall⟩ := hg
    have eg2 : ∀ (args : Array Value) (wx : World), (callFunc f args).run Tryz.prog wx = .ok (.enter f args) wx := eg
    obtain ⟨v', hb', hsl⟩ := hb.suffix hk
    have HB := Lib.hid hb'; have HX := Lib.hid hx; have HK := Lib.hid hk; have HPs := Lib.hid hPs
    have HC := Lib.hid hcall; have HO := Lib.hid ho; have HS := Lib.hid hS; have HF := Lib.hid hF; have HRep := Lib.hid hRep
    have HR := Lib.hid hR
    have hne := hF.ne; have hTP := hF.inP; have hRP := hS.inR
    clear hb hb' hk hx hv hPs hcall ho hS hF hRep hR eg hlo hsh c1 c2 c3 a1 a2 a3 a4 a5 a6
    show Calls Tryz.prog 109 #[.pointer (some ⟨R, 0, none⟩), .pointer (some ⟨Pb, 0, none⟩), .pointer (some ⟨X, 0, none⟩), .pointer (some ⟨G, 0, none⟩)] w _
    go_enter Tryz.func109, Tryz.ntmps109
    go_upto_region 5 with fail
    go_cut [7, 8, 9] from 10 (fun y n e wx => ∃ Y cs, ∃ nn er : Int, y = .pointer (some ⟨Y, 0, none⟩) ∧ n = .int .i64 nn ∧ e = .int .i64 er ∧ cs.length = 8 ∧ Hid (∀ v ∈ cs, v.oneCell' = true) ∧ OwnL wx Y cs ∧ w.heap.size ≤ Y ∧ Below w.heap.size w wx ∧
      Hid ((er = 0 ∧ ∃ y j, p (xs.drop k) = .ok (y, j) ∧ nn = (j : Nat) ∧ j ≤ (xs.drop k).length ∧ cs = enc y ∧ wf y) ∨ (er ≠ 0 ∧ p (xs.drop k) = .error er)))
    case first =>
      refine wp_region_held_drew (S := fun wq => wq.cell? ⟨G, 0, none⟩ = some (.func (.func f) #[] cap) ∧ wq.cell? ⟨R, 0, none⟩ = some v ∧ wq.cell? ⟨R, 1, none⟩ = some (.int .i64 k)) rfl ⟨hG, h0, h1⟩ fun hS0 => ?_
      (refine wpAnyH_take (i := 0) (v := ?_) rfl (by kernel_rfl) (by kernel_rfl) (by kernel_rfl) (fun _ _ _ h => h) (Or.inl ⟨by rfl, ?_⟩) (by assumption) ?_; rotate_left; (intro wq hSw; (try dsimp only at hSw); go_simp; (try with_reducible rfl)); rotate_left; (try dsimp only [Act.put]); (try simp only [List.setIfInBounds_toArray, List.set_cons_zero, List.set_cons_succ]))
      (refine wpAnyH_take (i := 1) (v := ?_) rfl (by kernel_rfl) (by kernel_rfl) (by kernel_rfl) (fun _ _ _ h => h) (Or.inl ⟨by rfl, ?_⟩) (by assumption) ?_; rotate_left; (intro wq hSw; (try dsimp only at hSw); go_simp; (try with_reducible rfl)); rotate_left; (try dsimp only [Act.put]); (try simp only [List.setIfInBounds_toArray, List.set_cons_zero, List.set_cons_succ]))
      (refine wpAnyH_take (i := 2) (v := ?_) rfl (by kernel_rfl) (by kernel_rfl) (by kernel_rfl) (fun _ _ _ h => h) (Or.inl ⟨by rfl, ?_⟩) (by assumption) ?_; rotate_left; (intro wq hSw; (try dsimp only at hSw); go_simp; (try with_reducible rfl)); rotate_left; (try dsimp only [Act.put]); (try simp only [List.setIfInBounds_toArray, List.set_cons_zero, List.set_cons_succ]))
      (refine wpAnyH_take (i := 3) (v := ?_) rfl (by kernel_rfl) (by kernel_rfl) (by kernel_rfl) (fun _ _ _ h => h) (Or.inl ⟨by rfl, ?_⟩) (by assumption) ?_; rotate_left; (intro wq hSw; (try dsimp only at hSw); go_simp; (try with_reducible rfl)); rotate_left; (try dsimp only [Act.put]); (try simp only [List.setIfInBounds_toArray, List.set_cons_zero, List.set_cons_succ]))
      (refine wpAnyH_take (i := 4) (v := ?_) rfl (by kernel_rfl) (by kernel_rfl) (by kernel_rfl) (fun _ _ _ h => h) (Or.inl ⟨by rfl, ?_⟩) (by assumption) ?_; rotate_left; (intro wq hSw; (try dsimp only at hSw); go_simp; (try with_reducible rfl)); rotate_left; (try dsimp only [Act.put]); (try simp only [List.setIfInBounds_toArray, List.set_cons_zero, List.set_cons_succ]))
      (refine wpAnyH_take (i := 5) (v := ?_) rfl (by kernel_rfl) (by kernel_rfl) (by kernel_rfl) (fun _ _ _ h => h) (Or.inl ⟨by rfl, ?_⟩) (by assumption) ?_; rotate_left; (intro wq hSw; (try dsimp only at hSw); go_simp; (try with_reducible rfl)); rotate_left; (try dsimp only [Act.put]); (try simp only [List.setIfInBounds_toArray, List.set_cons_zero, List.set_cons_succ]))
      (refine wpAnyH_take (i := 6) (v := ?_) rfl (by kernel_rfl) (by kernel_rfl) (by kernel_rfl) (fun _ _ _ h => h) (Or.inl ⟨by rfl, ?_⟩) (by assumption) ?_; rotate_left; (intro wq hSw; (try dsimp only at hSw); go_simp; (try with_reducible rfl)); rotate_left; (try dsimp only [Act.put]); (try simp only [List.setIfInBounds_toArray, List.set_cons_zero, List.set_cons_succ]))
      (refine wpAnyH_take (i := 7) (v := ?_) rfl (by kernel_rfl) (by kernel_rfl) (by kernel_rfl) (fun _ _ _ h => h) (Or.inl ⟨by rfl, ?_⟩) (by assumption) ?_; rotate_left; (intro wq hSw; (try dsimp only at hSw); go_simp; (try with_reducible rfl)); rotate_left; (try dsimp only [Act.put]); (try simp only [List.setIfInBounds_toArray, List.set_cons_zero, List.set_cons_succ]))
      (refine wpAnyH_take (i := 8) (v := ?_) rfl (by kernel_rfl) (by kernel_rfl) (by kernel_rfl) (fun _ _ _ h => h) (Or.inl ⟨by rfl, ?_⟩) (by assumption) ?_; rotate_left; (intro wq hSw; (try dsimp only at hSw); go_simp; (try with_reducible rfl)); rotate_left; (try dsimp only [Act.put]); (try simp only [List.setIfInBounds_toArray, List.set_cons_zero, List.set_cons_succ]))
      (refine wpAnyH_take (i := 9) (v := ?_) rfl (by kernel_rfl) (by kernel_rfl) (by kernel_rfl) (fun _ _ _ h => h) (Or.inl ⟨by rfl, ?_⟩) (by assumption) ?_; rotate_left; (intro wq hSw; (try dsimp only at hSw); go_simp; (try with_reducible rfl)); rotate_left; (try dsimp only [Act.put]); (try simp only [List.setIfInBounds_toArray, List.set_cons_zero, List.set_cons_succ]))
      refine wpAnyH_ready (rs := [10, 15]) (by kernel_rfl) (by simp) ?_
      refine AllReadyH.cons rfl (fun K hK => ?_) (AllReadyH.cons rfl (fun K hK => ?_) AllReadyH.nil)
      · -- the call ahead of the variable
        rw [if_pos (by rfl)]
        go_simp
        go_at_fn f; (refine Calls.mono (HC.out _ (HO.out.below (by (with_reducible (repeat' (first | exact Below.refl _ _ | assumption | apply bl_alloc | apply bl_drewN | apply bl_drew | refine bl_set ?_ ?_ _))) <;> (first | done | (simp; done) | (simp; omega) | omega))) _ _ (HB.out.below (by (with_reducible (repeat' (first | exact Below.refl _ _ | assumption | apply bl_alloc | apply bl_drewN | apply bl_drew | refine bl_set ?_ ?_ _))) <;> (first | done | (simp; done) | (simp; omega) | omega))) (by rw [List.length_drop]; have := HX.out; omega)) ?_); rintro e w1 ⟨b1, cs, n, er, rfl, hcl, hone, hres⟩
        have HRes := Lib.hid hres; have HOne := Lib.hid hone
        clear hres hone
        have hB1 : Below w.heap.size w w1 := bl_then (by (with_reducible (repeat' (first | exact Below.refl _ _ | assumption | apply bl_alloc | apply bl_drewN | apply bl_drew | refine bl_set ?_ ?_ _))) <;> (first | done | (simp; done) | (simp; omega) | omega)) b1
        have hcx := (bcell hB1).1
        go_wp2_with fail
        refine hK.out _ _ ⟨(hcx _ 0 hGl).trans hG, (hcx _ 0 hRl).trans h0, (hcx _ 1 hRl).trans h1⟩ fun hS1 => ?_
        clear hS0 hcx
        (try dsimp only [Act.put]); (try simp only [List.setIfInBounds_toArray, List.set_cons_zero, List.set_cons_succ])
        (refine wpAnyH_take (i := 11) (v := ?_) rfl (by kernel_rfl) (by kernel_rfl) (by kernel_rfl) (fun _ _ _ h => h) (Or.inl ⟨by rfl, ?_⟩) (by assumption) ?_; rotate_left; (intro wq hSw; (try dsimp only at hSw); go_simp; (try with_reducible rfl)); rotate_left; (try dsimp only [Act.put]); (try simp only [List.setIfInBounds_toArray, List.set_cons_zero, List.set_cons_succ]))
        (refine wpAnyH_take (i := 12) (v := ?_) rfl (by kernel_rfl) (by kernel_rfl) (by kernel_rfl) (fun _ _ _ h => h) (Or.inl ⟨by rfl, ?_⟩) (by assumption) ?_; rotate_left; (intro wq hSw; (try dsimp only at hSw); go_simp; (try with_reducible rfl)); rotate_left; (try dsimp only [Act.put]); (try simp only [List.setIfInBounds_toArray, List.set_cons_zero, List.set_cons_succ]))
        (refine wpAnyH_take (i := 13) (v := ?_) rfl (by kernel_rfl) (by kernel_rfl) (by kernel_rfl) (fun _ _ _ h => h) (Or.inl ⟨by rfl, ?_⟩) (by assumption) ?_; rotate_left; (intro wq hSw; (try dsimp only at hSw); go_simp; (try with_reducible rfl)); rotate_left; (try dsimp only [Act.put]); (try simp only [List.setIfInBounds_toArray, List.set_cons_zero, List.set_cons_succ]))
        (refine wpAnyH_take (i := 14) (v := ?_) rfl (by kernel_rfl) (by kernel_rfl) (by kernel_rfl) (fun _ _ _ h => h) (Or.inl ⟨by rfl, ?_⟩) (by assumption) ?_; rotate_left; (intro wq hSw; (try dsimp only at hSw); go_simp; (try with_reducible rfl)); rotate_left; (try dsimp only [Act.put]); (try simp only [List.setIfInBounds_toArray, List.set_cons_zero, List.set_cons_succ]))
        refine wpAnyH_ready (rs := [15]) (by kernel_rfl) (by simp) ?_
        refine AllReadyH.cons rfl (fun K hK => ?_) AllReadyH.nil
        rw [if_pos (by rfl)]
        go_simp
        have oZ := OwnL.new (w := w1) (l := [Value.int .u8 0, .int .u8 0, .int .u8 0, .int .u8 0, .int .u8 0, .int .u8 0, .int .u8 0, .int .u8 0]) (t := 31)
        have hBz : Below w.heap.size w (w1.alloc (.cells [Value.int .u8 0, .int .u8 0, .int .u8 0, .int .u8 0, .int .u8 0, .int .u8 0, .int .u8 0, .int .u8 0].toArray 31)) := bl_alloc hB1 _
        refine hK.out _ _ ⟨((bcell hBz).1 _ 0 hGl).trans hG, ((bcell hBz).1 _ 0 hRl).trans h0, ((bcell hBz).1 _ 1 hRl).trans h1⟩ fun hS2 => ?_
        (try dsimp only [Act.put]); (try simp only [List.setIfInBounds_toArray, List.set_cons_zero, List.set_cons_succ])
        refine wpAnyH_ready (rs := [16]) (by kernel_rfl) (by simp) ?_
        refine AllReadyH.cons rfl (fun K hK => ?_) AllReadyH.nil
        rw [if_pos (by rfl)]
        have htz := oZ.there
        have hsz : cs.toArray.size = 8 := by rw [List.size_toArray, hcl]
        refine wp_store_mid _ _ _ rfl w1.heap.size 0 cs.toArray rfl rfl (by rw [hsz]; exact htz) (by rw [hsz]; kernel_rfl) (all_oneCell_toArray HOne.out) ?_
        have oY := oZ.sets (vs := cs) hcl
        have hBy : Below w.heap.size w ((w1.alloc (.cells [Value.int .u8 0, .int .u8 0, .int .u8 0, .int .u8 0, .int .u8 0, .int .u8 0, .int .u8 0, .int .u8 0].toArray 31)).setCells w1.heap.size 0 cs) := bl_setCells hBz hB1.size
        refine hK.out _ _ ⟨((bcell hBy).1 _ 0 hGl).trans hG, ((bcell hBy).1 _ 0 hRl).trans h0, ((bcell hBy).1 _ 1 hRl).trans h1⟩ fun hS3 => ?_
        (try dsimp only [Act.put]); (try simp only [List.setIfInBounds_toArray, List.set_cons_zero, List.set_cons_succ])
        (refine wpAnyH_take (i := 17) (v := ?_) rfl (by kernel_rfl) (by kernel_rfl) (by kernel_rfl) (fun _ _ _ h => h) (Or.inl ⟨by rfl, ?_⟩) (by assumption) ?_; rotate_left; (intro wq hSw; (try dsimp only at hSw); go_simp; (try with_reducible rfl)); rotate_left; (try dsimp only [Act.put]); (try simp only [List.setIfInBounds_toArray, List.set_cons_zero, List.set_cons_succ])); (try simp only [List.getElem_toArray, List.getElem_cons_succ, List.getElem_cons_zero]); (try dsimp only [Act.put]); (try simp only [List.setIfInBounds_toArray, List.set_cons_zero, List.set_cons_succ])
        (refine wpAnyH_take (i := 18) (v := ?_) rfl (by kernel_rfl) (by kernel_rfl) (by kernel_rfl) (fun _ _ _ h => h) (Or.inl ⟨by rfl, ?_⟩) (by assumption) ?_; rotate_left; (intro wq hSw; (try dsimp only at hSw); go_simp; (try with_reducible rfl)); rotate_left; (try dsimp only [Act.put]); (try simp only [List.setIfInBounds_toArray, List.set_cons_zero, List.set_cons_succ])); (try simp only [List.getElem_toArray, List.getElem_cons_succ, List.getElem_cons_zero]); (try dsimp only [Act.put]); (try simp only [List.setIfInBounds_toArray, List.set_cons_zero, List.set_cons_succ])
        refine wpAnyH_done (by kernel_rfl) ?_ _
        have hYs := hB1.size
        generalize (w1.alloc (.cells [Value.int .u8 0, .int .u8 0, .int .u8 0, .int .u8 0, .int .u8 0, .int .u8 0, .int .u8 0, .int .u8 0].toArray 31)).setCells w1.heap.size 0 cs = wy at *
        clear oZ htz hBz hS1 hS2 hS3
        go_wp2_with fail
        go_meet
        case rel => exact ⟨_, cs, n, er, rfl, rfl, rfl, hcl, HOne, oY, hYs, hBy, HRes⟩
      · -- the variable ahead of the call
        rw [if_pos (by rfl)]
        go_simp
        have oZ : OwnL (w.drew.alloc (.cells [Value.int .u8 0, .int .u8 0, .int .u8 0, .int .u8 0, .int .u8 0, .int .u8 0, .int .u8 0, .int .u8 0].toArray 31)) w.heap.size [Value.int .u8 0, .int .u8 0, .int .u8 0, .int .u8 0, .int .u8 0, .int .u8 0, .int .u8 0, .int .u8 0] := OwnL.new (w := w.drew) (l := [Value.int .u8 0, .int .u8 0, .int .u8 0, .int .u8 0, .int .u8 0, .int .u8 0, .int .u8 0, .int .u8 0]) (t := 31)
        have hBz : Below w.heap.size w (w.drew.alloc (.cells [Value.int .u8 0, .int .u8 0, .int .u8 0, .int .u8 0, .int .u8 0, .int .u8 0, .int .u8 0, .int .u8 0].toArray 31)) := by (with_reducible (repeat' (first | exact Below.refl _ _ | assumption | apply bl_alloc | apply bl_drewN | apply bl_drew | refine bl_set ?_ ?_ _))) <;> (first | done | (simp; done) | (simp; omega) | omega)
        refine hK.out _ _ ⟨((bcell hBz).1 _ 0 hGl).trans hG, ((bcell hBz).1 _ 0 hRl).trans h0, ((bcell hBz).1 _ 1 hRl).trans h1⟩ fun hS1 => ?_
        clear hS0
        (try dsimp only [Act.put]); (try simp only [List.setIfInBounds_toArray, List.set_cons_zero, List.set_cons_succ])
        refine wpAnyH_ready (rs := [10]) (by kernel_rfl) (by simp) ?_
        refine AllReadyH.cons rfl (fun K hK => ?_) AllReadyH.nil
        rw [if_pos (by rfl)]
        go_simp
        go_at_fn f; (refine Calls.mono (HC.out _ (HO.out.below (by (with_reducible (repeat' (first | exact Below.refl _ _ | assumption | apply bl_alloc | apply bl_drewN | apply bl_drew | refine bl_set ?_ ?_ _))) <;> (first | done | (simp; done) | (simp; omega) | omega))) _ _ (HB.out.below (by (with_reducible (repeat' (first | exact Below.refl _ _ | assumption | apply bl_alloc | apply bl_drewN | apply bl_drew | refine bl_set ?_ ?_ _))) <;> (first | done | (simp; done) | (simp; omega) | omega))) (by rw [List.length_drop]; have := HX.out; omega)) ?_); rintro e w1 ⟨b1, cs, n, er, rfl, hcl, hone, hres⟩
        have HRes := Lib.hid hres; have HOne := Lib.hid hone
        clear hres hone
        have hB1 : Below w.heap.size w w1 := bl_then (by (with_reducible (repeat' (first | exact Below.refl _ _ | assumption | apply bl_alloc | apply bl_drewN | apply bl_drew | refine bl_set ?_ ?_ _))) <;> (first | done | (simp; done) | (simp; omega) | omega)) b1
        have oZ := oZ.trk b1
        have hcx := (bcell hB1).1
        go_wp2_with fail
        refine hK.out _ _ ⟨(hcx _ 0 hGl).trans hG, (hcx _ 0 hRl).trans h0, (hcx _ 1 hRl).trans h1⟩ fun hS1 => ?_
        clear hcx
        (try dsimp only [Act.put]); (try simp only [List.setIfInBounds_toArray, List.set_cons_zero, List.set_cons_succ])
        (refine wpAnyH_take (i := 11) (v := ?_) rfl (by kernel_rfl) (by kernel_rfl) (by kernel_rfl) (fun _ _ _ h => h) (Or.inl ⟨by rfl, ?_⟩) (by assumption) ?_; rotate_left; (intro wq hSw; (try dsimp only at hSw); go_simp; (try with_reducible rfl)); rotate_left; (try dsimp only [Act.put]); (try simp only [List.setIfInBounds_toArray, List.set_cons_zero, List.set_cons_succ]))
        (refine wpAnyH_take (i := 12) (v := ?_) rfl (by kernel_rfl) (by kernel_rfl) (by kernel_rfl) (fun _ _ _ h => h) (Or.inl ⟨by rfl, ?_⟩) (by assumption) ?_; rotate_left; (intro wq hSw; (try dsimp only at hSw); go_simp; (try with_reducible rfl)); rotate_left; (try dsimp only [Act.put]); (try simp only [List.setIfInBounds_toArray, List.set_cons_zero, List.set_cons_succ]))
        (refine wpAnyH_take (i := 13) (v := ?_) rfl (by kernel_rfl) (by kernel_rfl) (by kernel_rfl) (fun _ _ _ h => h) (Or.inl ⟨by rfl, ?_⟩) (by assumption) ?_; rotate_left; (intro wq hSw; (try dsimp only at hSw); go_simp; (try with_reducible rfl)); rotate_left; (try dsimp only [Act.put]); (try simp only [List.setIfInBounds_toArray, List.set_cons_zero, List.set_cons_succ]))
        (refine wpAnyH_take (i := 14) (v := ?_) rfl (by kernel_rfl) (by kernel_rfl) (by kernel_rfl) (fun _ _ _ h => h) (Or.inl ⟨by rfl, ?_⟩) (by assumption) ?_; rotate_left; (intro wq hSw; (try dsimp only at hSw); go_simp; (try with_reducible rfl)); rotate_left; (try dsimp only [Act.put]); (try simp only [List.setIfInBounds_toArray, List.set_cons_zero, List.set_cons_succ]))
        refine wpAnyH_ready (rs := [16]) (by kernel_rfl) (by simp) ?_
        refine AllReadyH.cons rfl (fun K hK => ?_) AllReadyH.nil
        rw [if_pos (by rfl)]
        have htz := oZ.there
        have hsz : cs.toArray.size = 8 := by rw [List.size_toArray, hcl]
        refine wp_store_mid _ _ _ rfl w.heap.size 0 cs.toArray rfl rfl (by rw [hsz]; exact htz) (by rw [hsz]; kernel_rfl) (all_oneCell_toArray HOne.out) ?_
        have oY := oZ.sets (vs := cs) hcl
        have hBy : Below w.heap.size w (w1.setCells w.heap.size 0 cs) := bl_setCells hB1 (Nat.le_refl _)
        refine hK.out _ _ ⟨((bcell hBy).1 _ 0 hGl).trans hG, ((bcell hBy).1 _ 0 hRl).trans h0, ((bcell hBy).1 _ 1 hRl).trans h1⟩ fun hS3 => ?_
        (try dsimp only [Act.put]); (try simp only [List.setIfInBounds_toArray, List.set_cons_zero, List.set_cons_succ])
        (refine wpAnyH_take (i := 17) (v := ?_) rfl (by kernel_rfl) (by kernel_rfl) (by kernel_rfl) (fun _ _ _ h => h) (Or.inl ⟨by rfl, ?_⟩) (by assumption) ?_; rotate_left; (intro wq hSw; (try dsimp only at hSw); go_simp; (try with_reducible rfl)); rotate_left; (try dsimp only [Act.put]); (try simp only [List.setIfInBounds_toArray, List.set_cons_zero, List.set_cons_succ])); (try simp only [List.getElem_toArray, List.getElem_cons_succ, List.getElem_cons_zero]); (try dsimp only [Act.put]); (try simp only [List.setIfInBounds_toArray, List.set_cons_zero, List.set_cons_succ])
        (refine wpAnyH_take (i := 18) (v := ?_) rfl (by kernel_rfl) (by kernel_rfl) (by kernel_rfl) (fun _ _ _ h => h) (Or.inl ⟨by rfl, ?_⟩) (by assumption) ?_; rotate_left; (intro wq hSw; (try dsimp only at hSw); go_simp; (try with_reducible rfl)); rotate_left; (try dsimp only [Act.put]); (try simp only [List.setIfInBounds_toArray, List.set_cons_zero, List.set_cons_succ])); (try simp only [List.getElem_toArray, List.getElem_cons_succ, List.getElem_cons_zero]); (try dsimp only [Act.put]); (try simp only [List.setIfInBounds_toArray, List.set_cons_zero, List.set_cons_succ])
        refine wpAnyH_done (by kernel_rfl) ?_ _
        generalize w1.setCells w.heap.size 0 cs = wy at *
        clear oZ htz hBz hS1 hS3
        go_wp2_with fail
        go_meet
        case rel => exact ⟨_, cs, n, er, rfl, rfl, rfl, hcl, HOne, oY, Nat.le_refl _, hBy, HRes⟩
    case rest =>
      obtain ⟨Y, cs, nn, er, rfl, rfl, rfl, hcl, HOne, oY, hYl, hB1, HRes⟩ := hcut
      have q3 : wc.cell? ⟨X, 0, none⟩ = some (.pointer (some ⟨T, o, none⟩)) := ((bcell hB1).1 _ 0 hXl).trans hX
      have oR := HR.out.trk hB1
      have HRep1 := Lib.hid (HS.out.frR _ _ _ HRep.out (Only.ne_ _ hB1))
      have hYR : ¬ Y = R := by have := hRl; omega
      have hYT : ¬ Y = T := by have := (HF.out.has _ _ HRep.out).1; omega
      have r3 : wc.cell? ⟨R, 3, none⟩ = some (.int .i64 0) := oR.2.1 3
      have fR3 : wc.frozen? ⟨R, 3, none⟩ = false := oR.2.2 3
      have hR1 := oR.1
      clear h0 h1 h2 h3 hX hG
      rcases HRes.out with ⟨rfl, y, j, hp, rfl, hj, rfl, hwf⟩ | ⟨hner, hp⟩
      · have HPP := Lib.hid hp; have HJ := Lib.hid hj; have HW := Lib.hid hwf
        have HSz := Lib.hid (show (enc y).toArray.size = 8 by rw [List.size_toArray, hcl])
        clear hp hj hwf HRes
        go_upto_region 8 with fail
        have o1 : Only (· = R) wc (wc.setCell ⟨R, 3, none⟩ (.int .i64 0)) := (Only.refl (· = R) _).setCell (p := ⟨R, 3, none⟩) (.inr rfl) _
        have oR2 := oR.put 3 (.int .i64 0) (Nat.le_of_ble_eq_true rfl)
        have oY2 := oY.only o1 hYR
        have q4 : (wc.setCell ⟨R, 3, none⟩ (.int .i64 0)).cell? ⟨X, 0, none⟩ = some (.pointer (some ⟨T, o, none⟩)) := (o1.cell (a := ⟨X, 0, none⟩) (Nat.lt_of_lt_of_le hXl hB1.size) hXR).trans q3
        have oW : Only P w (wc.setCell ⟨R, 3, none⟩ (.int .i64 0)) := (Only.ne_ P hB1).then_ o1 (fun i _ e => by rw [e]; exact hRP)
        have HRep2 := Lib.hid (HS.out.frR _ _ _ HRep1.out o1)
        clear o1 r3 fR3 hR1 oR q3 HRep1 hB1 oY
        generalize wc.setCell ⟨R, 3, none⟩ (.int .i64 0) = w2 at *
        obtain ⟨hT1, htT⟩ := HF.out.has _ _ HRep2.out
        have HT := Lib.hid htT
        clear htT
        go_upto_region 9 with (first | (refine wpList_load_mid rfl 31 _ rfl Y 0 rfl (enc y) _ oY2.range Tryz.underlying31 rfl (by rw [hcl]; kernel_rfl) ?_) | (refine wpList_store_mid rfl 31 _ _ rfl T o (enc y).toArray rfl rfl (by rw [HSz.out]; exact HT.out) (by rw [HSz.out]; kernel_rfl) (all_oneCell_toArray HOne.out) ?_; (try simp only [List.toList_toArray])))
        have o1 : Only (· = T) w2 (w2.setCells T o (enc y)) := only_setCells
        have oR3 := oR2.only o1 (fun e => hne e.symm)
        have oW3 : Only P w (w2.setCells T o (enc y)) := oW.then_ o1 (fun i _ e => by rw [e]; exact hTP)
        have HRep3 := Lib.hid (HF.out.put _ _ _ HRep2.out HW.out)
        clear o1 oR2 q4 oW HRep2 hT1 HT oY2
        generalize w2.setCells T o (enc y) = w3 at *
        have r1 : w3.cell? ⟨R, 1, none⟩ = some (.int .i64 k) := oR3.2.1 1
        have fR1 : w3.frozen? ⟨R, 1, none⟩ = false := oR3.2.2 1
        have hR3 := oR3.1
        have hw := w64_at (k := k) (j := j) (Nat.le_trans HK.out HX.out) (by have hj := HJ.out; rw [List.length_drop] at hj; have := HX.out; omega)
        go_wp2
        go_end0
        have o4 : Only (· = R) w3 (w3.setCell ⟨R, 1, none⟩ (.int .i64 ((k + j : Nat) : Int))) := (Only.refl (· = R) _).setCell (p := ⟨R, 1, none⟩) (.inr rfl) _
        refine ⟨rfl, oW3.then_ o4 (fun i _ e => by rw [e]; exact hRP), set y s, k + j, 0, oR3.put 1 _ (Nat.le_of_ble_eq_true rfl), HS.out.frR _ _ _ HRep3.out o4, .inl ⟨j, ?_, rfl, ?_, rfl⟩⟩
        · rw [Ps.bind_ok_ok HPP.out (x := set y s) (m := 0) rfl]; rfl
        · have hj := HJ.out; rw [List.length_drop] at hj; have := HK.out; omega
      · have HPP := Lib.hid hp
        clear hp HRes
        go_wp2
        go_end0
        have o1 : Only (· = R) wc (wc.setCell ⟨R, 3, none⟩ (.int .i64 er)) := (Only.refl (· = R) _).setCell (p := ⟨R, 3, none⟩) (.inr rfl) _
        refine ⟨rfl, (Only.ne_ P hB1).then_ o1 (fun i _ e => by rw [e]; exact hRP), s, k, er, oR.put 3 _ (Nat.le_of_ble_eq_true rfl), HS.out.frR _ _ _ HRep1.out o1, .inr ⟨?_, hner⟩⟩
        rw [Ps.bind_error HPP.out]
end Go.Proofs.YtgmhapjidbdhnaaGreat

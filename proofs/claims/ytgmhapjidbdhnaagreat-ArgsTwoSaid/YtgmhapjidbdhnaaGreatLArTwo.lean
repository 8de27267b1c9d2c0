/- ArgsTwo: the law's walk. Printed by gen_lartwo.py. -/
import Derived.Test.YtgmhapjidbdhnaaGreatArLawsKit
import Derived.Test.YtgmhapjidbdhnaaGreatZeros
set_option linter.unusedVariables false
set_option linter.unusedSimpArgs false
namespace Go.Proofs.YtgmhapjidbdhnaaGreat
open Go.RowKit
/-- Two handles, two names, three numbers, in three blocks. -/
structure TwoAt (w : World) (K : Nat) (v1 v2 : Value) (n1 n2 : List UInt8) (a b c : Nat) : Prop where
  lt : K + 1 + 1 < w.heap.size
  c0 : w.cell? ⟨K, 0, none⟩ = some v1
  c1 : w.cell? ⟨K, 1, none⟩ = some v2
  d0 : w.cell? ⟨K + 1, 0, none⟩ = some (.string ⟨n1.toArray⟩)
  d1 : w.cell? ⟨K + 1, 1, none⟩ = some (.string ⟨n2.toArray⟩)
  e0 : w.cell? ⟨K + 1 + 1, 0, none⟩ = some (.int .u32 (a : Int))
  e1 : w.cell? ⟨K + 1 + 1, 1, none⟩ = some (.int .u32 (b : Int))
  e2 : w.cell? ⟨K + 1 + 1, 2, none⟩ = some (.int .u32 (c : Int))
theorem TwoAt.only {w w' : World} {K : Nat} {v1 v2 : Value} {n1 n2 : List UInt8} {a b c : Nat} {P : Nat → Prop} (h : TwoAt w K v1 v2 n1 n2 a b c) (hb : Only P w w') (hP : ∀ i, P i → K + 1 + 1 < i) : TwoAt w' K v1 v2 n1 n2 a b c := by
  have hl := h.lt
  have f : ∀ j o, j < K + 1 + 1 + 1 → w'.cell? ⟨j, o, none⟩ = w.cell? ⟨j, o, none⟩ := fun j o hj => hb.cell (a := ⟨j, o, none⟩) (by show j < _; omega) (fun hp => by have := hP j hp; omega)
  exact ⟨Nat.lt_of_lt_of_le hl hb.size, (f _ _ (by omega)).trans h.c0, (f _ _ (by omega)).trans h.c1, (f _ _ (by omega)).trans h.d0, (f _ _ (by omega)).trans h.d1, (f _ _ (by omega)).trans h.e0, (f _ _ (by omega)).trans h.e1, (f _ _ (by omega)).trans h.e2⟩
theorem TwoAt.below {w w' : World} {K : Nat} {v1 v2 : Value} {n1 n2 : List UInt8} {a b c : Nat} (h : TwoAt w K v1 v2 n1 n2 a b c) (hb : Below w.heap.size w w') : TwoAt w' K v1 v2 n1 n2 a b c :=
  h.only (P := fun _ => False) (Only.of_below hb) (fun _ h => h.elim)
theorem oper_append_zeros {w : World} {o : Oper} {a : Act} {K : Act → World → Prop} {Q : Exit → Act → World → Prop} {base : Nat} {v : Value} {xs : List UInt8} (s x : Operand)
    (ho : o.op = .call { callee := .builtin .append, args := #[s, x], argTypes := #[24, 3] })
    (hs : a.eval s = v) (hx : a.eval x = .int .i64 8) (h1 : OwnB w base v xs) (hne : 0 < xs.length) (hlen : xs.length ≤ 1000000) (hbase : base ≤ w.heap.size)
    (h : ∀ v' w', OwnB w' base v' (xs ++ List.replicate 8 0) → Below base w w' → K (a.put o.dst v') w') : Oper.wp Tryz.prog o a w K Q := by
  obtain ⟨g, cap, rfl, hg, _⟩ := h1.slice hne
  obtain ⟨v', w', hr, ho', hg'⟩ := run_zeros_own (ty := o.type) h1 hlen hbase
  exact Lib.wp_append_run w s x 24 3 ho _ _ hs hx v' w' hr (h v' w' ho' ⟨hg'.os, hg'.tape, hg'.output, hg'.size, fun i hi => hg'.block i (by omega) (by intro e; injection e with e; omega)⟩)
/-- Appending, by an operation that is wanted. -/
theorem wp_append_on {w : World} {ops : Array Oper} {rest : List Oper} {o : Oper} {a : Act} {Q : Exit → Act → World → Prop} {base : Nat} {v v2 : Value} {xs ys : List UInt8} (hw : Region.wanted o (yielded ops a.tmps) = true) (s x : Operand)
    (ho : o.op = .call { callee := .builtin .append, args := #[s, x], argTypes := #[24, 24] })
    (hs : a.eval s = v) (hx : a.eval x = v2) (h1 : OwnB w base v xs) (h2 : Rd w v2 ys) (hlen : xs.length + ys.length ≤ 1099511627776) (hbase : base ≤ w.heap.size)
    (h : ∀ v' w', OwnB w' base v' (xs ++ ys) → w.grownBy w' v.ownBlock → Below base w w' → wpList Tryz.prog ops Q rest (a.put o.dst v') w') : wpList Tryz.prog ops Q (o :: rest) a w :=
  wpList_step fun _ hK => by rw [if_pos hw]; exact oper_append_rd s x ho hs hx h1 h2 hlen hbase fun v' w' a b c => hK _ _ (h v' w' a b c)
theorem Rd.toBs {w : World} {A : Option Addr} {n c : Nat} {xs : List UInt8} (h : Rd w (.slice A n c) xs) : Bs w A n xs := by
  obtain ⟨A', c', e, _, _, hb, _⟩ := h.bs
  injection e with e1 e2 e3
  subst e1; subst e2
  exact hb
theorem Same_rd {w : World} {A B : Option Addr} {n m c d : Nat} {xs ys : List UInt8} (h : Rd w (.slice A n c) xs) (k : Rd w (.slice B m d) ys) (he : xs = ys) : Calls Tryz.prog 15 #[.slice A n c, .slice B m d] w fun e w' => e = .returned (.bool true) ∧ Below w.heap.size w w' :=
  (Same_any h.toBs k.toBs).mono fun e w' hh => by rw [decide_eq_true he] at hh; exact hh
theorem OwnB.lo {w : World} {base g : Nat} {v : Value} {bs : List UInt8} (h : OwnB w base v bs) (hg : v.ownBlock = some g) : base ≤ g := by
  unfold OwnB at h
  rcases h.2 with ⟨rfl, _⟩ | ⟨g', cap, cur, rfl, hb, _⟩
  · cases hg
  · have hg : g' = g := by simpa [Value.ownBlock] using hg
    omega
theorem base_le {w : World} {base : Nat} {v : Value} {bs : List UInt8} (h : OwnB w base v bs) (hp : 0 < bs.length) : base ≤ w.heap.size := by
  obtain ⟨g, cap, _, h1, h2, _⟩ := h.slice hp
  omega
theorem only_base {w w' : World} {m : Nat} (h : Below m w w') : Only (fun i => m ≤ i) w w' := ⟨h.os, h.tape, h.output, h.size, fun i _ hp => h.block i (Nat.lt_of_not_le hp)⟩
/-- What the last step looks at. -/
structure FinAt (w : World) (K : Nat) (V1 V2 : Value) (n1 n2 : List UInt8) (a b c : Nat) (h1 : List UInt8) (Vb Vc Vd Vm Vt Vy : Value) (Lb Lc Ld Lm Lt Ly : List UInt8) (bt by_ : Nat) : Prop where
  T : TwoAt w K V1 V2 n1 n2 a b c
  r1 : Rd w V1 h1
  b : Rd w Vb Lb
  c : Rd w Vc Lc
  d : Rd w Vd Ld
  m : Rd w Vm Lm
  t : OwnB w bt Vt Lt
  y : OwnB w by_ Vy Ly
theorem FinAt.below {w w' : World} {K : Nat} {V1 V2 : Value} {n1 n2 : List UInt8} {a b c : Nat} {h1 : List UInt8} {Vb Vc Vd Vm Vt Vy : Value} {Lb Lc Ld Lm Lt Ly : List UInt8} {bt by_ : Nat} (h : FinAt w K V1 V2 n1 n2 a b c h1 Vb Vc Vd Vm Vt Vy Lb Lc Ld Lm Lt Ly bt by_) (hb : Below w.heap.size w w') : FinAt w' K V1 V2 n1 n2 a b c h1 Vb Vc Vd Vm Vt Vy Lb Lc Ld Lm Lt Ly bt by_ :=
  ⟨h.T.below hb, h.r1.below hb, h.b.below hb, h.c.below hb, h.d.below hb, h.m.below hb, h.t.below hb, h.y.below hb⟩
section
variable {w : World}
set_option maxRecDepth 100000 in
set_option maxHeartbeats 8000000 in
theorem LArgsTwo {v1 v2 : Value} {h1 h2 n1 n2 : List UInt8} {a b c : Nat} (r1 : Rd w v1 h1) (r2 : Rd w v2 h2) (ha : a < 4294967296) (hb : b < 4294967296) (hc : c < 4294967296) : Calls Tryz.prog 9 #[.agg #[v1, v2], .agg #[strV n1, strV n2], .agg #[.int .u32 (a : Int), .int .u32 (b : Int), .int .u32 (c : Int)]] w fun e w' => e = .returned (.bool true) ∧ Below w.heap.size w w' := by
  have R1 := Lib.hid r1
  have R2 := Lib.hid r2
  have HN := Lib.hid (⟨ha, hb, hc⟩ : a < 4294967296 ∧ b < 4294967296 ∧ c < 4294967296)
  obtain ⟨A1, c1, rfl, _, _, _, _⟩ := r1.bs
  obtain ⟨A2, c2, rfl, _, _, _, _⟩ := r2.bs
  obtain ⟨l1, hl1⟩ : ∃ n, h1.length = n := ⟨_, rfl⟩
  obtain ⟨l2, hl2⟩ : ∃ n, h2.length = n := ⟨_, rfl⟩
  rw [hl1] at R1 ⊢
  rw [hl2] at R2 ⊢
  have HL := Lib.hid (⟨hl1, hl2⟩ : h1.length = l1 ∧ h2.length = l2)
  clear r1 r2 ha hb hc hl1 hl2
  unfold strV
  have z1 : (ByteArray.mk n1.toArray).size = n1.length := rfl
  have z2 : (ByteArray.mk n2.toArray).size = n2.length := rfl
  go_enter Tryz.func9, Tryz.ntmps9
  go_upto_region 1 with fail
  refine wp_world (fun wx => TwoAt wx w.heap.size (.slice A1 l1 c1) (.slice A2 l2 c2) n1 n2 a b c ∧ Below w.heap.size w wx) ⟨⟨by simp, by simp [go_sem], by simp [go_sem], by simp [go_sem], by simp [go_sem], by simp [go_sem], by simp [go_sem], by simp [go_sem]⟩, by (with_reducible (repeat' (first | exact Below.refl _ _ | assumption | apply bl_alloc | apply bl_drewN | apply bl_drew | refine bl_set ?_ ?_ _))) <;> (first | done | (simp; done) | (simp; omega) | omega)⟩ ?_
  rintro w1 ⟨hT, hB1⟩
  have HT := Lib.hid hT
  have HB := Lib.hid hB1
  have hK := hT.lt
  have c0 := hT.c0; have c1' := hT.c1; have d0 := hT.d0; have d1 := hT.d1
  clear hT hB1
  by_cases q0 : l1 ≤ 64
  rotate_left
  · have p0 : ((l1 : Nat) : Int) > 64 := by omega
    go_wp2_with (go_at_call 10; (refine Calls.mono alive_any ?_); rintro e w2 ⟨rfl, b2⟩; (have HB := Lib.hid (bl_then HB.out b2)); (have hT := HT.out.below b2); (have HT := Lib.hid hT); (clear c0 c1' d0 d1); (have c0 := hT.c0); (have c1' := hT.c1); (have d0 := hT.d0); (have d1 := hT.d1); clear b2 hT)
    go_ret
    exact ⟨rfl, HB.out⟩
  have p0 : ¬ (((l1 : Nat) : Int) > 64) := by omega
  by_cases q1 : l2 ≤ 64
  rotate_left
  · have p1 : ((l2 : Nat) : Int) > 64 := by omega
    go_wp2_with (go_at_call 10; (refine Calls.mono alive_any ?_); rintro e w2 ⟨rfl, b2⟩; (have HB := Lib.hid (bl_then HB.out b2)); (have hT := HT.out.below b2); (have HT := Lib.hid hT); (clear c0 c1' d0 d1); (have c0 := hT.c0); (have c1' := hT.c1); (have d0 := hT.d0); (have d1 := hT.d1); clear b2 hT)
    go_ret
    exact ⟨rfl, HB.out⟩
  have p1 : ¬ (((l2 : Nat) : Int) > 64) := by omega
  by_cases q2 : n1.length ≤ 1024
  rotate_left
  · have p2 : ((n1.length : Nat) : Int) > 1024 := by omega
    go_wp2_with (go_at_call 10; (refine Calls.mono alive_any ?_); rintro e w2 ⟨rfl, b2⟩; (have HB := Lib.hid (bl_then HB.out b2)); (have hT := HT.out.below b2); (have HT := Lib.hid hT); (clear c0 c1' d0 d1); (have c0 := hT.c0); (have c1' := hT.c1); (have d0 := hT.d0); (have d1 := hT.d1); clear b2 hT)
    go_ret
    exact ⟨rfl, HB.out⟩
  have p2 : ¬ (((n1.length : Nat) : Int) > 1024) := by omega
  by_cases q3 : n2.length ≤ 1024
  rotate_left
  · have p3 : ((n2.length : Nat) : Int) > 1024 := by omega
    go_wp2_with (go_at_call 10; (refine Calls.mono alive_any ?_); rintro e w2 ⟨rfl, b2⟩; (have HB := Lib.hid (bl_then HB.out b2)); (have hT := HT.out.below b2); (have HT := Lib.hid hT); (clear c0 c1' d0 d1); (have c0 := hT.c0); (have c1' := hT.c1); (have d0 := hT.d0); (have d1 := hT.d1); clear b2 hT)
    go_ret
    exact ⟨rfl, HB.out⟩
  have p3 : ¬ (((n2.length : Nat) : Int) > 1024) := by omega
  go_upto_region 3 with (go_at_call 10; (refine Calls.mono alive_any ?_); rintro e w2 ⟨rfl, b2⟩; (have HB := Lib.hid (bl_then HB.out b2)); (have hT := HT.out.below b2); (have HT := Lib.hid hT); (clear c0 c1' d0 d1); (have c0 := hT.c0); (have c1' := hT.c1); (have d0 := hT.d0); (have d1 := hT.d1); clear b2 hT)
  clear c0 c1' d0 d1 p0 p1 p2 p3
  have HQ := Lib.hid (show h1.length ≤ 64 ∧ h2.length ≤ 64 ∧ n1.length ≤ 1024 ∧ n2.length ≤ 1024 from ⟨by rw [HL.out.1]; exact q0, by rw [HL.out.2]; exact q1, q2, q3⟩)
  clear q0 q1 q2 q3
  have hwr : IntKind.u64.wrap (a : Int) = a := wraps_u64' _ (by omega) (by have := HN.out.1; omega)
  have HA64 := Lib.hid (show a < 18446744073709551616 from Nat.lt_trans HN.out.1 (by decide))
  have HR1 := Lib.hid (R1.out.below HB.out)
  have HR2 := Lib.hid (R2.out.below HB.out)
  have hwW : w.heap.size = w.heap.size := rfl
  have t0 := HT.out.c0
  have t1 := HT.out.c1
  have t2 := HT.out.d0
  have t3 := HT.out.d1
  go_upto_region 4 with (go_at_call 12; (refine Calls.mono (Put_rename HQ.out.1 HQ.out.2.2.1 HQ.out.2.1 HQ.out.2.2.2 HR1.out HR2.out) ?_); rintro e wn ⟨vb, rfl, ob, bn⟩; (have qb := ob.rd); (obtain ⟨Ab, kb, rfl, _, _, _⟩ := qb.bs); (obtain ⟨Lb, hLb⟩ : ∃ n, (opqB h1 ++ (opqB n1 ++ (opqB h2 ++ opqB n2))).length = n := ⟨_, rfl⟩); (rw [hLb] at qb ⊢); (have HLnb := Lib.hid hLb); (have HQb := Lib.hid qb); (have HT := Lib.hid (HT.out.below bn)); (have HB := Lib.hid (bl_then HB.out bn)); (have HR1 := Lib.hid (HR1.out.below bn)); (have HR2 := Lib.hid (HR2.out.below bn)); clear ob qb hLb bn)
  clear t0 t1 t2 t3
  generalize Value.agg _ = gb
  have t0 := HT.out.c0
  have t1 := HT.out.c1
  have t3 := HT.out.d1
  go_upto_region 5 with (go_at_call 12; (refine Calls.mono (Put_link HQ.out.1 HQ.out.2.1 HQ.out.2.2.2 HR1.out HR2.out) ?_); rintro e wn ⟨vc, rfl, oc, bn⟩; (have qc := oc.rd); (obtain ⟨Ac, kc, rfl, _, _, _⟩ := qc.bs); (obtain ⟨Lc, hLc⟩ : ∃ n, (opqB h1 ++ (opqB h2 ++ opqB n2)).length = n := ⟨_, rfl⟩); (rw [hLc] at qc ⊢); (have HLnc := Lib.hid hLc); (have HQc := Lib.hid qc); (have HT := Lib.hid (HT.out.below bn)); (have HB := Lib.hid (bl_then HB.out bn)); (have HR1 := Lib.hid (HR1.out.below bn)); (have HR2 := Lib.hid (HR2.out.below bn)); (have HQb := Lib.hid (HQb.out.below bn)); clear oc qc hLc bn)
  clear t0 t1 t3
  generalize Value.agg _ = gc
  have t0 := HT.out.c0
  have t4 := HT.out.e0
  have t5 := HT.out.e1
  have t6 := HT.out.e2
  go_upto_region 6 with (go_at_call 12; (refine Calls.mono (Put_readdirplus (o := a) (c := b) (m := c) HQ.out.1 HA64.out HN.out.2.1 HN.out.2.2 HR1.out) ?_); rintro e wn ⟨vd, rfl, od, bn⟩; (have qd := od.rd); (obtain ⟨Ad, kd, rfl, _, _, _⟩ := qd.bs); (obtain ⟨Ld, hLd⟩ : ∃ n, (opqB h1 ++ (put8 a ++ (List.replicate 8 0 ++ (put4 b ++ put4 c)))).length = n := ⟨_, rfl⟩); (rw [hLd] at qd ⊢); (have HLnd := Lib.hid hLd); (have HQd := Lib.hid qd); (have HT := Lib.hid (HT.out.below bn)); (have HB := Lib.hid (bl_then HB.out bn)); (have HR1 := Lib.hid (HR1.out.below bn)); (have HR2 := Lib.hid (HR2.out.below bn)); (have HQb := Lib.hid (HQb.out.below bn)); (have HQc := Lib.hid (HQc.out.below bn)); clear od qd hLd bn)
  clear t0 t4 t5 t6
  generalize Value.agg _ = gd
  have t0 := HT.out.c0
  have t4 := HT.out.e0
  have t5 := HT.out.e1
  go_upto_region 7 with (go_at_call 12; (refine Calls.mono (Put_readdir (o := a) (c := b) HQ.out.1 HA64.out HN.out.2.1 HR1.out) ?_); rintro e wn ⟨vm, rfl, om, bn⟩; (have qm := om.rd); (obtain ⟨Am, km, rfl, _, _, _⟩ := qm.bs); (obtain ⟨Lm, hLm⟩ : ∃ n, (opqB h1 ++ (put8 a ++ (List.replicate 8 0 ++ put4 b))).length = n := ⟨_, rfl⟩); (rw [hLm] at qm ⊢); (have HLnm := Lib.hid hLm); (have HQm := Lib.hid qm); (have HT := Lib.hid (HT.out.below bn)); (have HB := Lib.hid (bl_then HB.out bn)); (have HR1 := Lib.hid (HR1.out.below bn)); (have HR2 := Lib.hid (HR2.out.below bn)); (have HQb := Lib.hid (HQb.out.below bn)); (have HQc := Lib.hid (HQc.out.below bn)); (have HQd := Lib.hid (HQd.out.below bn)); clear om qm hLm bn)
  clear t0 t4 t5
  generalize Value.agg _ = gm
  have hLd : ¬ ((Ld : Int) < 4) := by
    have := HLnd.out
    simp only [List.length_append, List.length_replicate, put4_length] at this
    omega
  go_upto_region 9 with fail
  clear hLd
  have hop : ∀ x : List UInt8, x.length ≤ 1024 → (opqB x).length ≤ 1032 := fun x hx => by
    rw [opqB, List.length_append, qCut_length]
    have : (put4 x.length).length = 4 := rfl
    unfold padN
    omega
  have HOp := Lib.hid (show (opqB h1).length ≤ 1032 ∧ (opqB h2).length ≤ 1032 ∧ (opqB n1).length ≤ 1032 ∧ (opqB n2).length ≤ 1032 from ⟨hop _ (by have := HQ.out.1; omega), hop _ (by have := HQ.out.2.1; omega), hop _ HQ.out.2.2.1, hop _ HQ.out.2.2.2⟩)
  clear hop
  obtain ⟨hT9, hB9⟩ : TwoAt wn w.heap.size (.slice A1 l1 c1) (.slice A2 l2 c2) n1 n2 a b c ∧ Below w.heap.size w wn := ⟨HT.out, HB.out⟩
  go_cut [15] from 114 (fun sx wx => Hid (OwnB wx wn.heap.size sx (opqB h1 ++ opqB n1)) ∧ Hid (Below wn.heap.size wn wx))
  case first =>
    rename_i J K2 hJ hK2
    refine wp_region_held_drew (S := fun wq => wq.cell? ⟨w.heap.size, 0, none⟩ = some (.slice A1 l1 c1) ∧ wq.cell? ⟨w.heap.size + 1, 0, none⟩ = some (.string ⟨n1.toArray⟩)) rfl ⟨hT9.c0, hT9.d0⟩ fun hS0 => ?_
    (refine wpAnyH_take (i := 0) (v := ?_) rfl (by kernel_rfl) (by kernel_rfl) (by kernel_rfl) (fun _ _ _ h => h) (Or.inl ⟨by rfl, ?_⟩) (by assumption) ?_; rotate_left; (intro wq hSw; (try dsimp only at hSw); go_simp; (try with_reducible rfl)); rotate_left; (try dsimp only [Act.put]); (try simp only [List.setIfInBounds_toArray, List.set_cons_zero, List.set_cons_succ])); (try simp only [List.getElem_toArray, List.getElem_cons_succ, List.getElem_cons_zero]); (try dsimp only [Act.put]); (try simp only [List.setIfInBounds_toArray, List.set_cons_zero, List.set_cons_succ])
    (refine wpAnyH_take (i := 1) (v := ?_) rfl (by kernel_rfl) (by kernel_rfl) (by kernel_rfl) (fun _ _ _ h => h) (Or.inl ⟨by rfl, ?_⟩) (by assumption) ?_; rotate_left; (intro wq hSw; (try dsimp only at hSw); go_simp; (try with_reducible rfl)); rotate_left; (try dsimp only [Act.put]); (try simp only [List.setIfInBounds_toArray, List.set_cons_zero, List.set_cons_succ])); (try simp only [List.getElem_toArray, List.getElem_cons_succ, List.getElem_cons_zero]); (try dsimp only [Act.put]); (try simp only [List.setIfInBounds_toArray, List.set_cons_zero, List.set_cons_succ])
    (refine wpAnyH_take (i := 3) (v := ?_) rfl (by kernel_rfl) (by kernel_rfl) (by kernel_rfl) (fun _ _ _ h => h) (Or.inl ⟨by rfl, ?_⟩) (by assumption) ?_; rotate_left; (intro wq hSw; (try dsimp only at hSw); go_simp; (try with_reducible rfl)); rotate_left; (try dsimp only [Act.put]); (try simp only [List.setIfInBounds_toArray, List.set_cons_zero, List.set_cons_succ])); (try simp only [List.getElem_toArray, List.getElem_cons_succ, List.getElem_cons_zero]); (try dsimp only [Act.put]); (try simp only [List.setIfInBounds_toArray, List.set_cons_zero, List.set_cons_succ])
    (refine wpAnyH_take (i := 4) (v := ?_) rfl (by kernel_rfl) (by kernel_rfl) (by kernel_rfl) (fun _ _ _ h => h) (Or.inl ⟨by rfl, ?_⟩) (by assumption) ?_; rotate_left; (intro wq hSw; (try dsimp only at hSw); go_simp; (try with_reducible rfl)); rotate_left; (try dsimp only [Act.put]); (try simp only [List.setIfInBounds_toArray, List.set_cons_zero, List.set_cons_succ])); (try simp only [List.getElem_toArray, List.getElem_cons_succ, List.getElem_cons_zero]); (try dsimp only [Act.put]); (try simp only [List.setIfInBounds_toArray, List.set_cons_zero, List.set_cons_succ])
    refine wpAnyH_ready (rs := [2]) (by kernel_rfl) (by simp) ?_
    refine AllReadyH.cons rfl (fun K' hK => ?_) AllReadyH.nil
    rw [if_pos (by rfl)]
    go_simp
    go_at_call 17; (refine Calls.mono (OPut_any (HR1.out.below (bl_drew (Below.refl wn.heap.size wn))) (show h1.length ≤ 1900000 by have := HQ.out.1; omega)) ?_); rintro e wy0 ⟨vy0, rfl, oy0, by0⟩
    have bt0 := bl_then (bl_drew (Below.refl wn.heap.size wn)) by0
    go_wp2_with fail
    have ht0 := hT9.below bt0
    refine hK.out _ _ ⟨ht0.c0, ht0.d0⟩ fun hS => ?_
    (try simp only [List.getElem_toArray, List.getElem_cons_succ, List.getElem_cons_zero]); (try dsimp only [Act.put]); (try simp only [List.setIfInBounds_toArray, List.set_cons_zero, List.set_cons_succ])
    clear hK K'
    refine wpAnyH_ready (rs := [5]) (by kernel_rfl) (by simp) ?_
    refine AllReadyH.cons rfl (fun K' hK => ?_) AllReadyH.nil
    rw [if_pos (by rfl)]
    go_simp
    go_at_call 18; (refine Calls.mono (SPut_any (xs := n1) (show n1.length ≤ 1900000 by have := HQ.out.2.2.1; omega)) ?_); rintro e wy1 ⟨vy1, rfl, oy1, by1⟩
    have bt1 := bl_then bt0 by1
    go_wp2_with fail
    have ht1 := hT9.below bt1
    refine hK.out _ _ ⟨ht1.c0, ht1.d0⟩ fun hS => ?_
    (try simp only [List.getElem_toArray, List.getElem_cons_succ, List.getElem_cons_zero]); (try dsimp only [Act.put]); (try simp only [List.setIfInBounds_toArray, List.set_cons_zero, List.set_cons_succ])
    clear hK K'
    refine wpAnyH_ready (rs := [6]) (by kernel_rfl) (by simp) ?_
    refine AllReadyH.cons rfl (fun K' hK => ?_) AllReadyH.nil
    rw [if_pos (by rfl)]
    refine oper_append_rd _ _ rfl rfl rfl ((show OwnB _ wn.heap.size _ (opqB h1) from oy0).below by1) (show Rd _ _ (opqB n1) from oy1.rd) (show (opqB h1).length + (opqB n1).length ≤ 1099511627776 by have := HOp.out; omega) (bl_then bt0 by1).size ?_
    intro vy2 wy2 oy2 _ by2
    have bt2 : Below wn.heap.size wn wy2 := Below.trans (bt1) (by2)
    have ht2 := hT9.below bt2
    refine hK.out _ _ ⟨ht2.c0, ht2.d0⟩ fun hS => ?_
    (try simp only [List.getElem_toArray, List.getElem_cons_succ, List.getElem_cons_zero]); (try dsimp only [Act.put]); (try simp only [List.setIfInBounds_toArray, List.set_cons_zero, List.set_cons_succ])
    clear hK K'
    (refine wpAnyH_take (i := 7) (v := ?_) rfl (by kernel_rfl) (by kernel_rfl) (by kernel_rfl) (fun _ _ _ h => h) (Or.inl ⟨by rfl, ?_⟩) (by assumption) ?_; rotate_left; (intro wq hSw; (try dsimp only at hSw); go_simp; (try with_reducible rfl)); rotate_left; (try dsimp only [Act.put]); (try simp only [List.setIfInBounds_toArray, List.set_cons_zero, List.set_cons_succ])); (try simp only [List.getElem_toArray, List.getElem_cons_succ, List.getElem_cons_zero]); (try dsimp only [Act.put]); (try simp only [List.setIfInBounds_toArray, List.set_cons_zero, List.set_cons_succ])
    refine wpAnyH_done (by kernel_rfl) ?_ _
    (first | refine hK2 _ _ (Met.intro ?_) | refine Met.intro ?_ | skip)
    refine hJ _ _ ?_
    (repeat apply Exists.intro)
    refine ⟨?_, rfl⟩
    exact ⟨Lib.hid oy2, Lib.hid bt2⟩
  case rest =>
  obtain ⟨HOx, HBx⟩ := hcut
  have HLo := Lib.hid (show (∀ g, Value.inBlock (.slice Ab Lb kb) = some g → g < wn.heap.size) ∧ (∀ g, Value.inBlock (.slice Ac Lc kc) = some g → g < wn.heap.size) ∧ (∀ g, Value.inBlock (.slice Ad Ld kd) = some g → g < wn.heap.size) ∧ (∀ g, Value.inBlock (.slice Am Lm km) = some g → g < wn.heap.size) ∧ (∀ g, Value.inBlock (.slice A1 l1 c1) = some g → g < wn.heap.size) from ⟨fun g h => rd_block HQb.out h, fun g h => rd_block HQc.out h, fun g h => rd_block HQd.out h, fun g h => rd_block HQm.out h, fun g h => rd_block HR1.out h⟩)
  have hTlt := HT.out.lt
  have HT := Lib.hid (HT.out.below HBx.out)
  have HR1 := Lib.hid (HR1.out.below HBx.out)
  have HR2 := Lib.hid (HR2.out.below HBx.out)
  have HQb := Lib.hid (HQb.out.below HBx.out)
  have HQc := Lib.hid (HQc.out.below HBx.out)
  have HQd := Lib.hid (HQd.out.below HBx.out)
  have HQm := Lib.hid (HQm.out.below HBx.out)
  have HB := Lib.hid (bl_then HB.out HBx.out)
  have hsA := HBx.out.size
  clear HBx hT9 hB9
  generalize wc = wA at *
  have HXb := Lib.hid (fun i (hi : Value.ownBlock _ = some i) => (⟨HOx.out.lo hi, HOx.out.block_lt hi⟩ : wn.heap.size ≤ i ∧ i < wA.heap.size))
  go_upto_region 10 with fail
  obtain ⟨hT9, hB9⟩ : TwoAt wA w.heap.size (.slice A1 l1 c1) (.slice A2 l2 c2) n1 n2 a b c ∧ Below w.heap.size w wA := ⟨HT.out, HB.out⟩
  go_cut [16] from 121 (fun sx wx => Hid (OwnB wx wA.heap.size sx (opqB h2 ++ opqB n2)) ∧ Hid (Below wA.heap.size wA wx))
  case first =>
    rename_i J K2 hJ hK2
    refine wp_region_held_drew (S := fun wq => wq.cell? ⟨w.heap.size, 1, none⟩ = some (.slice A2 l2 c2) ∧ wq.cell? ⟨w.heap.size + 1, 1, none⟩ = some (.string ⟨n2.toArray⟩)) rfl ⟨hT9.c1, hT9.d1⟩ fun hS0 => ?_
    (refine wpAnyH_take (i := 0) (v := ?_) rfl (by kernel_rfl) (by kernel_rfl) (by kernel_rfl) (fun _ _ _ h => h) (Or.inl ⟨by rfl, ?_⟩) (by assumption) ?_; rotate_left; (intro wq hSw; (try dsimp only at hSw); go_simp; (try with_reducible rfl)); rotate_left; (try dsimp only [Act.put]); (try simp only [List.setIfInBounds_toArray, List.set_cons_zero, List.set_cons_succ])); (try simp only [List.getElem_toArray, List.getElem_cons_succ, List.getElem_cons_zero]); (try dsimp only [Act.put]); (try simp only [List.setIfInBounds_toArray, List.set_cons_zero, List.set_cons_succ])
    (refine wpAnyH_take (i := 1) (v := ?_) rfl (by kernel_rfl) (by kernel_rfl) (by kernel_rfl) (fun _ _ _ h => h) (Or.inl ⟨by rfl, ?_⟩) (by assumption) ?_; rotate_left; (intro wq hSw; (try dsimp only at hSw); go_simp; (try with_reducible rfl)); rotate_left; (try dsimp only [Act.put]); (try simp only [List.setIfInBounds_toArray, List.set_cons_zero, List.set_cons_succ])); (try simp only [List.getElem_toArray, List.getElem_cons_succ, List.getElem_cons_zero]); (try dsimp only [Act.put]); (try simp only [List.setIfInBounds_toArray, List.set_cons_zero, List.set_cons_succ])
    (refine wpAnyH_take (i := 3) (v := ?_) rfl (by kernel_rfl) (by kernel_rfl) (by kernel_rfl) (fun _ _ _ h => h) (Or.inl ⟨by rfl, ?_⟩) (by assumption) ?_; rotate_left; (intro wq hSw; (try dsimp only at hSw); go_simp; (try with_reducible rfl)); rotate_left; (try dsimp only [Act.put]); (try simp only [List.setIfInBounds_toArray, List.set_cons_zero, List.set_cons_succ])); (try simp only [List.getElem_toArray, List.getElem_cons_succ, List.getElem_cons_zero]); (try dsimp only [Act.put]); (try simp only [List.setIfInBounds_toArray, List.set_cons_zero, List.set_cons_succ])
    (refine wpAnyH_take (i := 4) (v := ?_) rfl (by kernel_rfl) (by kernel_rfl) (by kernel_rfl) (fun _ _ _ h => h) (Or.inl ⟨by rfl, ?_⟩) (by assumption) ?_; rotate_left; (intro wq hSw; (try dsimp only at hSw); go_simp; (try with_reducible rfl)); rotate_left; (try dsimp only [Act.put]); (try simp only [List.setIfInBounds_toArray, List.set_cons_zero, List.set_cons_succ])); (try simp only [List.getElem_toArray, List.getElem_cons_succ, List.getElem_cons_zero]); (try dsimp only [Act.put]); (try simp only [List.setIfInBounds_toArray, List.set_cons_zero, List.set_cons_succ])
    refine wpAnyH_ready (rs := [2]) (by kernel_rfl) (by simp) ?_
    refine AllReadyH.cons rfl (fun K' hK => ?_) AllReadyH.nil
    rw [if_pos (by rfl)]
    go_simp
    go_at_call 17; (refine Calls.mono (OPut_any (HR2.out.below (bl_drew (Below.refl wA.heap.size wA))) (show h2.length ≤ 1900000 by have := HQ.out.2.1; omega)) ?_); rintro e wy0 ⟨vy0, rfl, oy0, by0⟩
    have bt0 := bl_then (bl_drew (Below.refl wA.heap.size wA)) by0
    go_wp2_with fail
    have ht0 := hT9.below bt0
    refine hK.out _ _ ⟨ht0.c1, ht0.d1⟩ fun hS => ?_
    (try simp only [List.getElem_toArray, List.getElem_cons_succ, List.getElem_cons_zero]); (try dsimp only [Act.put]); (try simp only [List.setIfInBounds_toArray, List.set_cons_zero, List.set_cons_succ])
    clear hK K'
    refine wpAnyH_ready (rs := [5]) (by kernel_rfl) (by simp) ?_
    refine AllReadyH.cons rfl (fun K' hK => ?_) AllReadyH.nil
    rw [if_pos (by rfl)]
    go_simp
    go_at_call 18; (refine Calls.mono (SPut_any (xs := n2) (show n2.length ≤ 1900000 by have := HQ.out.2.2.2; omega)) ?_); rintro e wy1 ⟨vy1, rfl, oy1, by1⟩
    have bt1 := bl_then bt0 by1
    go_wp2_with fail
    have ht1 := hT9.below bt1
    refine hK.out _ _ ⟨ht1.c1, ht1.d1⟩ fun hS => ?_
    (try simp only [List.getElem_toArray, List.getElem_cons_succ, List.getElem_cons_zero]); (try dsimp only [Act.put]); (try simp only [List.setIfInBounds_toArray, List.set_cons_zero, List.set_cons_succ])
    clear hK K'
    refine wpAnyH_ready (rs := [6]) (by kernel_rfl) (by simp) ?_
    refine AllReadyH.cons rfl (fun K' hK => ?_) AllReadyH.nil
    rw [if_pos (by rfl)]
    refine oper_append_rd _ _ rfl rfl rfl ((show OwnB _ wA.heap.size _ (opqB h2) from oy0).below by1) (show Rd _ _ (opqB n2) from oy1.rd) (show (opqB h2).length + (opqB n2).length ≤ 1099511627776 by have := HOp.out; omega) (bl_then bt0 by1).size ?_
    intro vy2 wy2 oy2 _ by2
    have bt2 : Below wA.heap.size wA wy2 := Below.trans (bt1) (by2)
    have ht2 := hT9.below bt2
    refine hK.out _ _ ⟨ht2.c1, ht2.d1⟩ fun hS => ?_
    (try simp only [List.getElem_toArray, List.getElem_cons_succ, List.getElem_cons_zero]); (try dsimp only [Act.put]); (try simp only [List.setIfInBounds_toArray, List.set_cons_zero, List.set_cons_succ])
    clear hK K'
    (refine wpAnyH_take (i := 7) (v := ?_) rfl (by kernel_rfl) (by kernel_rfl) (by kernel_rfl) (fun _ _ _ h => h) (Or.inl ⟨by rfl, ?_⟩) (by assumption) ?_; rotate_left; (intro wq hSw; (try dsimp only at hSw); go_simp; (try with_reducible rfl)); rotate_left; (try dsimp only [Act.put]); (try simp only [List.setIfInBounds_toArray, List.set_cons_zero, List.set_cons_succ])); (try simp only [List.getElem_toArray, List.getElem_cons_succ, List.getElem_cons_zero]); (try dsimp only [Act.put]); (try simp only [List.setIfInBounds_toArray, List.set_cons_zero, List.set_cons_succ])
    refine wpAnyH_done (by kernel_rfl) ?_ _
    (first | refine hK2 _ _ (Met.intro ?_) | refine Met.intro ?_ | skip)
    refine hJ _ _ ?_
    (repeat apply Exists.intro)
    refine ⟨?_, rfl⟩
    exact ⟨Lib.hid oy2, Lib.hid bt2⟩
  case rest =>
  obtain ⟨HOt, HBx⟩ := hcut
  have HT := Lib.hid (HT.out.below HBx.out)
  have HR1 := Lib.hid (HR1.out.below HBx.out)
  have HR2 := Lib.hid (HR2.out.below HBx.out)
  have HQb := Lib.hid (HQb.out.below HBx.out)
  have HQc := Lib.hid (HQc.out.below HBx.out)
  have HQd := Lib.hid (HQd.out.below HBx.out)
  have HQm := Lib.hid (HQm.out.below HBx.out)
  have HB := Lib.hid (bl_then HB.out HBx.out)
  have HOx := Lib.hid (HOx.out.below HBx.out)
  have hsB := HBx.out.size
  clear HBx hT9 hB9
  generalize wc = wB at *
  go_upto_region 11 with fail
  obtain ⟨hT9, hB9⟩ : TwoAt wB w.heap.size (.slice A1 l1 c1) (.slice A2 l2 c2) n1 n2 a b c ∧ Below w.heap.size w wB := ⟨HT.out, HB.out⟩
  go_cut [17] from 128 (fun sx wx => Hid (OwnB wx wB.heap.size sx (opqB h1 ++ put8 a)) ∧ Hid (Below wB.heap.size wB wx))
  case first =>
    rename_i J K2 hJ hK2
    refine wp_region_held_drew (S := fun wq => wq.cell? ⟨w.heap.size, 0, none⟩ = some (.slice A1 l1 c1) ∧ wq.cell? ⟨w.heap.size + 1 + 1, 0, none⟩ = some (.int .u32 (a : Int))) rfl ⟨hT9.c0, hT9.e0⟩ fun hS0 => ?_
    (refine wpAnyH_take (i := 0) (v := ?_) rfl (by kernel_rfl) (by kernel_rfl) (by kernel_rfl) (fun _ _ _ h => h) (Or.inl ⟨by rfl, ?_⟩) (by assumption) ?_; rotate_left; (intro wq hSw; (try dsimp only at hSw); go_simp; (try with_reducible rfl)); rotate_left; (try dsimp only [Act.put]); (try simp only [List.setIfInBounds_toArray, List.set_cons_zero, List.set_cons_succ])); (try simp only [List.getElem_toArray, List.getElem_cons_succ, List.getElem_cons_zero]); (try dsimp only [Act.put]); (try simp only [List.setIfInBounds_toArray, List.set_cons_zero, List.set_cons_succ])
    (refine wpAnyH_take (i := 1) (v := ?_) rfl (by kernel_rfl) (by kernel_rfl) (by kernel_rfl) (fun _ _ _ h => h) (Or.inl ⟨by rfl, ?_⟩) (by assumption) ?_; rotate_left; (intro wq hSw; (try dsimp only at hSw); go_simp; (try with_reducible rfl)); rotate_left; (try dsimp only [Act.put]); (try simp only [List.setIfInBounds_toArray, List.set_cons_zero, List.set_cons_succ])); (try simp only [List.getElem_toArray, List.getElem_cons_succ, List.getElem_cons_zero]); (try dsimp only [Act.put]); (try simp only [List.setIfInBounds_toArray, List.set_cons_zero, List.set_cons_succ])
    (refine wpAnyH_take (i := 3) (v := ?_) rfl (by kernel_rfl) (by kernel_rfl) (by kernel_rfl) (fun _ _ _ h => h) (Or.inl ⟨by rfl, ?_⟩) (by assumption) ?_; rotate_left; (intro wq hSw; (try dsimp only at hSw); go_simp; (try with_reducible rfl)); rotate_left; (try dsimp only [Act.put]); (try simp only [List.setIfInBounds_toArray, List.set_cons_zero, List.set_cons_succ])); (try simp only [List.getElem_toArray, List.getElem_cons_succ, List.getElem_cons_zero]); (try dsimp only [Act.put]); (try simp only [List.setIfInBounds_toArray, List.set_cons_zero, List.set_cons_succ])
    (refine wpAnyH_take (i := 4) (v := ?_) rfl (by kernel_rfl) (by kernel_rfl) (by kernel_rfl) (fun _ _ _ h => h) (Or.inl ⟨by rfl, ?_⟩) (by assumption) ?_; rotate_left; (intro wq hSw; (try dsimp only at hSw); go_simp; (try with_reducible rfl)); rotate_left; (try dsimp only [Act.put]); (try simp only [List.setIfInBounds_toArray, List.set_cons_zero, List.set_cons_succ])); (try simp only [List.getElem_toArray, List.getElem_cons_succ, List.getElem_cons_zero]); (try dsimp only [Act.put]); (try simp only [List.setIfInBounds_toArray, List.set_cons_zero, List.set_cons_succ])
    (refine wpAnyH_take (i := 5) (v := ?_) rfl (by kernel_rfl) (by kernel_rfl) (by kernel_rfl) (fun _ _ _ h => h) (Or.inl ⟨by rfl, ?_⟩) (by assumption) ?_; rotate_left; (intro wq hSw; (try dsimp only at hSw); go_simp; (try with_reducible rfl)); rotate_left; (try dsimp only [Act.put]); (try simp only [List.setIfInBounds_toArray, List.set_cons_zero, List.set_cons_succ])); (try simp only [List.getElem_toArray, List.getElem_cons_succ, List.getElem_cons_zero]); (try dsimp only [Act.put]); (try simp only [List.setIfInBounds_toArray, List.set_cons_zero, List.set_cons_succ])
    refine wpAnyH_ready (rs := [2]) (by kernel_rfl) (by simp) ?_
    refine AllReadyH.cons rfl (fun K' hK => ?_) AllReadyH.nil
    rw [if_pos (by rfl)]
    go_simp
    go_at_call 17; (refine Calls.mono (OPut_any (HR1.out.below (bl_drew (Below.refl wB.heap.size wB))) (show h1.length ≤ 1900000 by have := HQ.out.1; omega)) ?_); rintro e wy0 ⟨vy0, rfl, oy0, by0⟩
    have bt0 := bl_then (bl_drew (Below.refl wB.heap.size wB)) by0
    go_wp2_with fail
    have ht0 := hT9.below bt0
    refine hK.out _ _ ⟨ht0.c0, ht0.e0⟩ fun hS => ?_
    (try simp only [List.getElem_toArray, List.getElem_cons_succ, List.getElem_cons_zero]); (try dsimp only [Act.put]); (try simp only [List.setIfInBounds_toArray, List.set_cons_zero, List.set_cons_succ])
    clear hK K'
    refine wpAnyH_ready (rs := [6]) (by kernel_rfl) (by simp) ?_
    refine AllReadyH.cons rfl (fun K' hK => ?_) AllReadyH.nil
    rw [if_pos (by rfl)]
    go_simp
    go_at_call 19; (refine Calls.mono (PutLong_any a HA64.out _) ?_); rintro e wy1 ⟨vy1, rfl, oy1, by1⟩
    have bt1 := bl_then bt0 by1
    go_wp2_with fail
    have ht1 := hT9.below bt1
    refine hK.out _ _ ⟨ht1.c0, ht1.e0⟩ fun hS => ?_
    (try simp only [List.getElem_toArray, List.getElem_cons_succ, List.getElem_cons_zero]); (try dsimp only [Act.put]); (try simp only [List.setIfInBounds_toArray, List.set_cons_zero, List.set_cons_succ])
    clear hK K'
    refine wpAnyH_ready (rs := [7]) (by kernel_rfl) (by simp) ?_
    refine AllReadyH.cons rfl (fun K' hK => ?_) AllReadyH.nil
    rw [if_pos (by rfl)]
    refine oper_append_rd _ _ rfl rfl rfl ((show OwnB _ wB.heap.size _ (opqB h1) from oy0).below by1) (show Rd _ _ (put8 a) from oy1.rd) (show (opqB h1).length + (put8 a).length ≤ 1099511627776 by have := HOp.out; have : (put8 a).length = 8 := rfl; omega) (bl_then bt0 by1).size ?_
    intro vy2 wy2 oy2 _ by2
    have bt2 : Below wB.heap.size wB wy2 := Below.trans (bt1) (by2)
    have ht2 := hT9.below bt2
    refine hK.out _ _ ⟨ht2.c0, ht2.e0⟩ fun hS => ?_
    (try simp only [List.getElem_toArray, List.getElem_cons_succ, List.getElem_cons_zero]); (try dsimp only [Act.put]); (try simp only [List.setIfInBounds_toArray, List.set_cons_zero, List.set_cons_succ])
    clear hK K'
    (refine wpAnyH_take (i := 8) (v := ?_) rfl (by kernel_rfl) (by kernel_rfl) (by kernel_rfl) (fun _ _ _ h => h) (Or.inl ⟨by rfl, ?_⟩) (by assumption) ?_; rotate_left; (intro wq hSw; (try dsimp only at hSw); go_simp; (try with_reducible rfl)); rotate_left; (try dsimp only [Act.put]); (try simp only [List.setIfInBounds_toArray, List.set_cons_zero, List.set_cons_succ])); (try simp only [List.getElem_toArray, List.getElem_cons_succ, List.getElem_cons_zero]); (try dsimp only [Act.put]); (try simp only [List.setIfInBounds_toArray, List.set_cons_zero, List.set_cons_succ])
    refine wpAnyH_done (by kernel_rfl) ?_ _
    (first | refine hK2 _ _ (Met.intro ?_) | refine Met.intro ?_ | skip)
    refine hJ _ _ ?_
    (repeat apply Exists.intro)
    refine ⟨?_, rfl⟩
    exact ⟨Lib.hid oy2, Lib.hid bt2⟩
  case rest =>
  obtain ⟨HOy, HBy⟩ := hcut
  have hsC := HBy.out.size
  clear hT9 hB9
  generalize wc = wC at *
  go_upto_region 12 with fail
  have hT9 : TwoAt wC w.heap.size (.slice A1 l1 c1) (.slice A2 l2 c2) n1 n2 a b c := HT.out.below HBy.out
  have hP9 : ∀ i, wB.heap.size ≤ i → w.heap.size + 1 + 1 < i := fun i hi => by have := HT.out.lt; omega
  go_cut [17] from 136 (fun sx wx => Hid (OwnB wx wB.heap.size sx (opqB h1 ++ put8 a ++ List.replicate 8 0 ++ put4 b)) ∧ Hid (Below wB.heap.size wC wx))
  case first =>
    rename_i J K2 hJ hK2
    refine wp_region_held_drew (S := fun wq => wq.cell? ⟨w.heap.size + 1 + 1, 1, none⟩ = some (.int .u32 (b : Int))) rfl hT9.e1 fun hS0 => ?_
    (refine wpAnyH_take (i := 0) (v := ?_) rfl (by kernel_rfl) (by kernel_rfl) (by kernel_rfl) (fun _ _ _ h => h) (Or.inl ⟨by rfl, ?_⟩) (by assumption) ?_; rotate_left; (intro wq hSw; (try dsimp only at hSw); go_simp; (try with_reducible rfl)); rotate_left; (try dsimp only [Act.put]); (try simp only [List.setIfInBounds_toArray, List.set_cons_zero, List.set_cons_succ])); (try simp only [List.getElem_toArray, List.getElem_cons_succ, List.getElem_cons_zero]); (try dsimp only [Act.put]); (try simp only [List.setIfInBounds_toArray, List.set_cons_zero, List.set_cons_succ])
    (refine wpAnyH_take (i := 2) (v := ?_) rfl (by kernel_rfl) (by kernel_rfl) (by kernel_rfl) (fun _ _ _ h => h) (Or.inl ⟨by rfl, ?_⟩) (by assumption) ?_; rotate_left; (intro wq hSw; (try dsimp only at hSw); go_simp; (try with_reducible rfl)); rotate_left; (try dsimp only [Act.put]); (try simp only [List.setIfInBounds_toArray, List.set_cons_zero, List.set_cons_succ])); (try simp only [List.getElem_toArray, List.getElem_cons_succ, List.getElem_cons_zero]); (try dsimp only [Act.put]); (try simp only [List.setIfInBounds_toArray, List.set_cons_zero, List.set_cons_succ])
    (refine wpAnyH_take (i := 3) (v := ?_) rfl (by kernel_rfl) (by kernel_rfl) (by kernel_rfl) (fun _ _ _ h => h) (Or.inl ⟨by rfl, ?_⟩) (by assumption) ?_; rotate_left; (intro wq hSw; (try dsimp only at hSw); go_simp; (try with_reducible rfl)); rotate_left; (try dsimp only [Act.put]); (try simp only [List.setIfInBounds_toArray, List.set_cons_zero, List.set_cons_succ])); (try simp only [List.getElem_toArray, List.getElem_cons_succ, List.getElem_cons_zero]); (try dsimp only [Act.put]); (try simp only [List.setIfInBounds_toArray, List.set_cons_zero, List.set_cons_succ])
    have bt9 : Below wB.heap.size wC wC.drew := (bl_drew (Below.refl wC.heap.size wC)).mono hsC
    refine wpAnyH_ready (rs := [1]) (by kernel_rfl) (by simp) ?_
    refine AllReadyH.cons rfl (fun K' hK => ?_) AllReadyH.nil
    rw [if_pos (by rfl)]
    refine oper_append_zeros _ _ rfl rfl rfl (HOy.out.below (bl_drew (Below.refl wC.heap.size wC))) (show 0 < (opqB h1 ++ put8 a).length by rw [List.length_append]; have : (put8 a).length = 8 := rfl; omega) (show (opqB h1 ++ put8 a).length ≤ 1000000 by rw [List.length_append]; have := HOp.out; have : (put8 a).length = 8 := rfl; omega) (Nat.le_trans hsC (bl_drew (Below.refl wC.heap.size wC)).size) ?_
    intro vy0 wy0 oy0 by0
    have bt0 := bt9.trans by0
    refine hK.out _ _ (hT9.only (only_base bt0) hP9).e1 fun hS => ?_
    (try simp only [List.getElem_toArray, List.getElem_cons_succ, List.getElem_cons_zero]); (try dsimp only [Act.put]); (try simp only [List.setIfInBounds_toArray, List.set_cons_zero, List.set_cons_succ])
    clear hK K'
    refine wpAnyH_ready (rs := [4]) (by kernel_rfl) (by simp) ?_
    refine AllReadyH.cons rfl (fun K' hK => ?_) AllReadyH.nil
    rw [if_pos (by rfl)]
    go_simp
    go_at_call 20; (refine Calls.mono (Put_any b HN.out.2.1 _) ?_); rintro e wy1 ⟨vy1, rfl, oy1, by1⟩
    have bt1 := bt0.trans (by1.mono (Nat.le_trans hsC bt0.size))
    go_wp2_with fail
    refine hK.out _ _ (hT9.only (only_base bt1) hP9).e1 fun hS => ?_
    (try simp only [List.getElem_toArray, List.getElem_cons_succ, List.getElem_cons_zero]); (try dsimp only [Act.put]); (try simp only [List.setIfInBounds_toArray, List.set_cons_zero, List.set_cons_succ])
    clear hK K'
    refine wpAnyH_ready (rs := [5]) (by kernel_rfl) (by simp) ?_
    refine AllReadyH.cons rfl (fun K' hK => ?_) AllReadyH.nil
    rw [if_pos (by rfl)]
    refine oper_append_rd _ _ rfl rfl rfl (oy0.below by1) oy1.rd (show (opqB h1 ++ put8 a ++ List.replicate 8 0).length + (put4 b).length ≤ 1099511627776 by have := HOp.out; have : (put8 a).length = 8 := rfl; simp only [List.length_append, List.length_replicate, put4_length]; omega) (Nat.le_trans hsC bt1.size) ?_
    intro vy2 wy2 oy2 _ by2
    have bt2 := bt1.trans by2
    refine hK.out _ _ (hT9.only (only_base bt2) hP9).e1 fun hS => ?_
    (try simp only [List.getElem_toArray, List.getElem_cons_succ, List.getElem_cons_zero]); (try dsimp only [Act.put]); (try simp only [List.setIfInBounds_toArray, List.set_cons_zero, List.set_cons_succ])
    clear hK K'
    (refine wpAnyH_take (i := 6) (v := ?_) rfl (by kernel_rfl) (by kernel_rfl) (by kernel_rfl) (fun _ _ _ h => h) (Or.inl ⟨by rfl, ?_⟩) (by assumption) ?_; rotate_left; (intro wq hSw; (try dsimp only at hSw); go_simp; (try with_reducible rfl)); rotate_left; (try dsimp only [Act.put]); (try simp only [List.setIfInBounds_toArray, List.set_cons_zero, List.set_cons_succ])); (try simp only [List.getElem_toArray, List.getElem_cons_succ, List.getElem_cons_zero]); (try dsimp only [Act.put]); (try simp only [List.setIfInBounds_toArray, List.set_cons_zero, List.set_cons_succ])
    refine wpAnyH_done (by kernel_rfl) ?_ _
    (first | refine hK2 _ _ (Met.intro ?_) | refine Met.intro ?_ | skip)
    refine hJ _ _ ?_
    (repeat apply Exists.intro)
    refine ⟨?_, rfl⟩
    exact ⟨Lib.hid oy2, Lib.hid bt2⟩
  case rest =>
  obtain ⟨HOy2, HBz⟩ := hcut
  have HBD := Lib.hid (HBy.out.trans HBz.out)
  clear HBy HBz HOy hT9 hP9
  generalize wc = wD at *
  have HFb := Lib.hid (HBD.out)
  have HOxD := Lib.hid (HOx.out.below HBD.out)
  obtain ⟨Ay, ky, rfl, _, _, _⟩ := HOy2.out.rd.bs
  obtain ⟨Ny, hNy⟩ : ∃ n, (opqB h1 ++ put8 a ++ List.replicate 8 0 ++ put4 b).length = n := ⟨_, rfl⟩
  have hOy := HOy2.out
  rw [hNy] at hOy ⊢
  have HF := Lib.hid (⟨HT.out.below HBD.out, HR1.out.below HBD.out, HQb.out.below HBD.out, HQc.out.below HBD.out, HQd.out.below HBD.out, HQm.out.below HBD.out, HOt.out.below HBD.out, hOy⟩ : FinAt wD w.heap.size _ (.slice A2 l2 c2) n1 n2 a b c h1 _ _ _ _ _ _ _ _ _ _ _ _ wA.heap.size wB.heap.size)
  have HBw := Lib.hid (bl_then HB.out HBD.out)
  have hwn : w.heap.size ≤ wn.heap.size := by omega
  have HNB := Lib.hid (⟨hsA, hsB, hsC⟩ : wn.heap.size ≤ wA.heap.size ∧ wA.heap.size ≤ wB.heap.size ∧ wB.heap.size ≤ wC.heap.size)
  have hsD := HBD.out.size
  have tc := HF.out.T.c0
  have te := HF.out.T.e2
  clear HT HR1 HR2 R1 R2 HQb HQc HQd HQm HOt HOy2 hOy hNy HBD HFb HOx hsC hwr HB
  obtain ⟨Nz, hNz⟩ : ∃ n, (opqB h1 ++ opqB n1 ++ (opqB h2 ++ opqB n2)).length = n := ⟨_, rfl⟩
  obtain ⟨Nc, hNc⟩ : ∃ n, (opqB h1 ++ (opqB h2 ++ opqB n2)).length = n := ⟨_, rfl⟩
  obtain ⟨Nd, hNd⟩ : ∃ n, (opqB h1 ++ put8 a ++ List.replicate 8 0 ++ put4 b ++ put4 c).length = n := ⟨_, rfl⟩
  have HLen := Lib.hid (⟨hNz, hNc, hNd⟩ : (opqB h1 ++ opqB n1 ++ (opqB h2 ++ opqB n2)).length = Nz ∧ (opqB h1 ++ (opqB h2 ++ opqB n2)).length = Nc ∧ (opqB h1 ++ put8 a ++ List.replicate 8 0 ++ put4 b ++ put4 c).length = Nd)
  clear hNz hNc hNd
  go_wp2_with (first
    | (at_builtin; (refine wp_append_rd rfl _ _ rfl rfl rfl HOxD.out HF.out.t.rd (show (opqB h1 ++ opqB n1).length + (opqB h2 ++ opqB n2).length ≤ 1099511627776 by have := HOp.out; simp only [List.length_append]; omega) (by omega) ?_; intro vz wz oz gz bz; (have ho := (Only.refl (fun i => Value.ownBlock _ = some i) wD).grown gz (fun i _ h => h.symm)); (have hF := HF.out); (have HF := Lib.hid (⟨hF.T.only ho (fun i hp => by have := HXb.out i hp; omega), hF.r1.only ho (fun g hg hp => by have := HXb.out _ hp; have := HLo.out.2.2.2.2 g hg; omega), hF.b.only ho (fun g hg hp => by have := HXb.out _ hp; have := HLo.out.1 g hg; omega), hF.c.only ho (fun g hg hp => by have := HXb.out _ hp; have := HLo.out.2.1 g hg; omega), hF.d.only ho (fun g hg hp => by have := HXb.out _ hp; have := HLo.out.2.2.1 g hg; omega), hF.m.only ho (fun g hg hp => by have := HXb.out _ hp; have := HLo.out.2.2.2.1 g hg; omega), hF.t.only ho (fun g hg hp => by have := HXb.out _ hp; have := hF.t.lo hg; omega), hF.y.only ho (fun g hg hp => by have := HXb.out _ hp; have := hF.y.lo hg; have := HNB.out; omega)⟩ : FinAt wz w.heap.size _ (.slice A2 l2 c2) n1 n2 a b c h1 _ _ _ _ _ _ _ _ _ _ _ _ wA.heap.size wB.heap.size)); (have HBw := Lib.hid (HBw.out.trans (bz.mono hwn))); (have hz := oz.rd); (obtain ⟨Az, kz, rfl, _, _, _⟩ := hz.bs); (rw [HLen.out.1] at hz ⊢); (have HZ := Lib.hid hz); (clear tc te); (have tc := HF.out.T.c0); (have te := HF.out.T.e2); clear oz gz bz ho hF hz))
    | (go_at_call 15; ((with_reducible refine Calls.mono (Same_rd HF.out.b HZ.out (by simp only [List.append_assoc])) ?_); rintro e wt ⟨rfl, bt⟩); (have HF := Lib.hid (HF.out.below bt)); (have HBw := Lib.hid (bl_then HBw.out bt)); (clear tc te); (have tc := HF.out.T.c0); (have te := HF.out.T.e2); clear bt HZ)
    | (go_at_call 17; ((refine Calls.mono (OPut_any HF.out.r1 (show h1.length ≤ 1900000 by have := HQ.out.1; omega)) ?_); rintro e wo ⟨vo, rfl, oo, bo⟩); (have HFt := HF); (have HBt := HBw); (have HOo := Lib.hid (show OwnB wo _ vo (opqB h1) from oo)); (have HBo := Lib.hid bo); (have HF := Lib.hid (HF.out.below bo)); (have HBw := Lib.hid (bl_then HBw.out bo)); (clear tc te); (have tc := HF.out.T.c0); (have te := HF.out.T.e2); clear oo bo)
    | (at_builtin; (refine wp_append_on (by kernel_rfl) _ _ rfl rfl rfl HOo.out HF.out.t.rd (show (opqB h1).length + (opqB h2 ++ opqB n2).length ≤ 1099511627776 by have := HOp.out; simp only [List.length_append]; omega) HBo.out.size ?_; intro vp wp op_ _ bp; (have HF := Lib.hid (HFt.out.below (HBo.out.trans bp))); (have HBw := Lib.hid (bl_then HBt.out (HBo.out.trans bp))); (have hz := op_.rd); (obtain ⟨Ap, kp, rfl, _, _, _⟩ := hz.bs); (rw [HLen.out.2.1] at hz ⊢); (have HZc := Lib.hid hz); (clear tc te); (have tc := HF.out.T.c0); (have te := HF.out.T.e2); clear op_ bp hz HOo HBo HFt HBt))
    | (go_at_call 15; ((with_reducible refine Calls.mono (Same_rd HF.out.c HZc.out rfl) ?_); rintro e wt ⟨rfl, bt⟩); (have HF := Lib.hid (HF.out.below bt)); (have HBw := Lib.hid (bl_then HBw.out bt)); (clear tc te); (have tc := HF.out.T.c0); (have te := HF.out.T.e2); clear bt HZc)
    | (go_at_call 15; ((with_reducible refine Calls.mono (Same_rd HF.out.m HF.out.y.rd (by simp only [List.append_assoc])) ?_); rintro e wt ⟨rfl, bt⟩); (have HF := Lib.hid (HF.out.below bt)); (have HBw := Lib.hid (bl_then HBw.out bt)); (clear tc te); (have tc := HF.out.T.c0); (have te := HF.out.T.e2); clear bt)
    | (go_at_call 20; ((refine Calls.mono (Put_any c HN.out.2.2 _) ?_); rintro e wq ⟨vq, rfl, oq, bq⟩); (have HOq := Lib.hid oq); (have HF := Lib.hid (HF.out.below bq)); (have HBw := Lib.hid (bl_then HBw.out bq)); (have HBq := Lib.hid bq.size); (clear tc te); (have tc := HF.out.T.c0); (have te := HF.out.T.e2); clear oq bq)
    | (at_builtin; go_loud (refine wp_append_on (by kernel_rfl) _ _ rfl rfl rfl HF.out.y HOq.out.rd (show (opqB h1 ++ put8 a ++ List.replicate 8 0 ++ put4 b).length + (put4 c).length ≤ 1099511627776 by have := HOp.out; have : (put8 a).length = 8 := rfl; simp only [List.length_append, List.length_replicate, put4_length]; omega) (base_le HF.out.y (show 0 < (opqB h1 ++ put8 a ++ List.replicate 8 0 ++ put4 b).length by have : (put8 a).length = 8 := rfl; simp only [List.length_append, List.length_replicate, put4_length]; omega)) ?_; intro vr wr or_ _ br; (have HD := Lib.hid (HF.out.d.only (only_base br) (fun g hg hp => by have := HLo.out.2.2.1 g hg; have := HNB.out; omega))); (have HBw := Lib.hid (HBw.out.trans (br.mono (by have := HNB.out; omega)))); (have hz := or_.rd); (obtain ⟨Ar_, kr, rfl, _, _, _⟩ := hz.bs); (rw [HLen.out.2.2] at hz ⊢); (have HZd := Lib.hid hz); clear or_ br hz))
    | (go_at_call 15; ((with_reducible refine Calls.mono (Same_rd HD.out HZd.out (by simp only [List.append_assoc])) ?_); rintro e wt ⟨rfl, bt⟩); (have HBf := Lib.hid (bl_then HBw.out bt)); clear bt))
  go_ret
  exact ⟨rfl, HBf.out⟩
end
end Go.Proofs.YtgmhapjidbdhnaaGreat

/- args.Put, walked: it comes to the plain putA. -/
import Derived.Test.YtgmhapjidbdhnaaGreatArAll
set_option linter.unusedVariables false
set_option linter.unusedSimpArgs false
namespace Go.Proofs.YtgmhapjidbdhnaaGreat
open Go.RowKit
/-- A row of the map of parts, looked up: the operation. -/
theorem oper_row {w : World} {o : Oper} {a : Act} {K : Act → World → Prop} {Q : Exit → Act → World → Prop} {lo B M p : Nat} (hM : RowsMap w lo B M) (hp : p < 4294967296) (m x : Operand) (hop : o.op = Op.lookup 64 m x true)
    (hm : a.eval m = .map (some M)) (hx : a.eval x = .int .u32 (p : Int))
    (hK : ∀ v, (p ≤ 21 → RowIs w lo B v (rowsOf p)) → K (a.put o.dst (.tuple #[v, .bool (decide (p ≤ 21))])) w) : o.wp Tryz.prog a w K Q := by
  obtain ⟨D, n, hown, h1, h2⟩ := hM
  obtain ⟨v, ps, hrun, hv⟩ := hown.look_ok procKeyed Tryz.underlying64 (z := .slice none 0 0) (by kernel_rfl) (zd := .held (.slice none 0 0)) (zp := []) rfl (keyP p hp)
  have hd : Maps.has D (kP p) = decide (p ≤ 21) := by
    rcases Nat.lt_or_ge 21 p with hlt | hle
    · rw [h2 p hlt hp, decide_eq_false (by omega)]
    · rw [(h1 p hle).1, decide_eq_true hle]
  have hr : p ≤ 21 → RowIs w lo B v (rowsOf p) := fun hle => by
    obtain ⟨e1, u, e2, e3⟩ := h1 p hle
    rw [e2] at hv
    injection hv with hv
    injection hv with hv _
    injection hv with hv
    rw [hv]; exact e3
  unfold Oper.wp
  simp only [execOp, hop, hm, hx, Sem.run_bind, hrun, Result.andThen_ok, hd, Sem.run_pure]
  exact hK v hr
theorem rows_len (p : Nat) (hp : p ≤ 21) : (rowsOf p).length ≤ 5 := by
  have h : ((List.range 22).all fun p => decide ((rowsOf p).length ≤ 5)) = true := by kernel_rfl
  have := List.all_eq_true.1 h p (List.mem_range.2 (by omega))
  simpa using this
/-- What the getting comes to, as a row of cells and an error. -/
def GotCs (p : Nat) (bs : List UInt8) (base : Nat) (w : World) (cs : List Value) (er : Int) : Prop :=
  (∃ x u1 u2 u3, getA p bs = .ok x ∧ ArOut base w x u1 u2 u3 ∧ cs = arC u1 u2 u3 x ∧ er = 0) ∨ (getA p bs = .error er ∧ er ≠ 0 ∧ cs = arZ)
theorem got_cs {p : Nat} {xs : List UInt8} {base : Nat} {w w' : World} {e : Ending} (h : ArGot p xs w e w') (hb : base ≤ w.heap.size) : ∃ cs er, e = .returned (.tuple #[.agg cs.toArray, .int .i64 er]) ∧ Hid (GotCs p xs base w' cs er) ∧ cs.length = 40 ∧ (∀ v ∈ cs, v.oneCell' = true) ∧ Below w.heap.size w w' := by
  obtain ⟨hB, ⟨a, v1, v2, v3, h1, h2, rfl⟩ | ⟨er, h1, h2, rfl⟩⟩ := h
  · exact ⟨_, _, rfl, Lib.hid (.inl ⟨a, v1, v2, v3, h1, ⟨h2.wf, h2.h1, h2.h2, h2.h3, fun g hg => Nat.le_trans hb (h2.n1 g hg), fun g hg => Nat.le_trans hb (h2.n2 g hg), fun g hg => Nat.le_trans hb (h2.n3 g hg)⟩, rfl, rfl⟩), arC_len h2.wf.verf, arC_one h2.h1.one h2.h2.one h2.h3.one, hB⟩
  · exact ⟨_, _, rfl, Lib.hid (.inr ⟨h1, h2, rfl⟩), rfl, arC_one rfl rfl rfl, hB⟩
theorem GotCs.only {p : Nat} {xs : List UInt8} {base : Nat} {w w' : World} {cs : List Value} {er : Int} (h : GotCs p xs base w cs er) {X : Nat} (ho : Only (· = X) w w') (hX : w.heap.size ≤ X) : GotCs p xs base w' cs er := by
  rcases h with ⟨x, u1, u2, u3, h1, h2, h3⟩ | h
  · refine .inl ⟨x, u1, u2, u3, h1, ⟨h2.wf, h2.h1.only ho ?_, h2.h2.only ho ?_, h2.h3.only ho ?_, h2.n1, h2.n2, h2.n3⟩, h3⟩
    · exact fun g hg e => absurd (rd_block h2.h1 hg) (by rw [e]; exact Nat.not_lt_of_le hX)
    · exact fun g hg e => absurd (rd_block h2.h2 hg) (by rw [e]; exact Nat.not_lt_of_le hX)
    · exact fun g hg e => absurd (rd_block h2.h3 hg) (by rw [e]; exact Nat.not_lt_of_le hX)
  · exact .inr h
theorem GotCs.onlyLow {p : Nat} {xs : List UInt8} {base base' : Nat} {w w' : World} {cs : List Value} {er : Int} (h : GotCs p xs base w cs er) {X : Nat} (ho : Only (· = X) w w') (hX : X < base) (hb : base' ≤ base) : GotCs p xs base' w' cs er := by
  rcases h with ⟨x, u1, u2, u3, h1, h2, h3⟩ | h
  · refine .inl ⟨x, u1, u2, u3, h1, ⟨h2.wf, h2.h1.only ho ?_, h2.h2.only ho ?_, h2.h3.only ho ?_, fun g hg => Nat.le_trans hb (h2.n1 g hg), fun g hg => Nat.le_trans hb (h2.n2 g hg), fun g hg => Nat.le_trans hb (h2.n3 g hg)⟩, h3⟩
    · exact fun g hg e => absurd (h2.n1 g hg) (by rw [e]; exact Nat.not_le_of_lt hX)
    · exact fun g hg e => absurd (h2.n2 g hg) (by rw [e]; exact Nat.not_le_of_lt hX)
    · exact fun g hg e => absurd (h2.n3 g hg) (by rw [e]; exact Nat.not_le_of_lt hX)
  · exact .inr h
theorem OwnB.rebase {w : World} {base b0 : Nat} {v : Value} {bs : List UInt8} (h : OwnB w b0 v bs) (hg : ∀ g, v.ownBlock = some g → base ≤ g) : OwnB w base v bs := by
  unfold OwnB at h ⊢
  refine ⟨h.1, ?_⟩
  rcases h.2 with h | ⟨g, cap, cur, rfl, hb, h⟩
  · exact .inl h
  · exact .inr ⟨g, cap, cur, rfl, hg g rfl, h⟩
set_option maxRecDepth 100000 in
set_option maxHeartbeats 4000000 in
theorem Put_walk {a : Ar} {v1 v2 v3 : Value} {w : World} (hw : ArWf a) (h1 : Rd w v1 a.h) (h2 : Rd w v2 a.h2) (h3 : Rd w v3 a.data) : Calls Tryz.prog 12 #[.agg (arC v1 v2 v3 a).toArray] w (PutPost (putA a) w) := by
  have hlen := arC_len (v1 := v1) (v2 := v2) (v3 := v3) hw.verf
  obtain ⟨l, hl⟩ : ∃ l, arC v1 v2 v3 a = l := ⟨_, rfl⟩
  rw [hl] at hlen ⊢
  have HW := Lib.hid hw; have H1 := Lib.hid h1; have H2 := Lib.hid h2; have H3 := Lib.hid h3; have HL := Lib.hid hlen; have HE := Lib.hid hl
  clear hw h1 h2 h3 hlen hl
  go_enter Tryz.func12, Tryz.ntmps12
  go_upto_region 1 with fail
  refine wp_world (fun wx => OwnL wx w.heap.size l ∧ Below w.heap.size w wx) ⟨OwnL.made w l 33, by (with_reducible (repeat' (first | exact Below.refl _ _ | assumption | apply bl_alloc | apply bl_drewN | apply bl_drew | refine bl_set ?_ ?_ _))) <;> (first | done | (simp; done) | (simp; omega) | omega)⟩ ?_
  rintro w1 ⟨oK, hB1⟩
  rw [← HE.out] at oK
  have hKl := oK.1
  have g0 : w1.cell? ⟨w.heap.size, 0, none⟩ = some (.int .u32 a.proc) := oK.2.1 0
  refine wp_region_held_drew (S := fun wq => wq.cell? ⟨w.heap.size, 0, none⟩ = some (.int .u32 a.proc)) rfl g0 fun hS0 => ?_
  (refine wpAnyH_take (i := 1) (v := ?_) rfl (by kernel_rfl) (by kernel_rfl) (by kernel_rfl) (fun _ _ _ h => h) (Or.inl ⟨by rfl, ?_⟩) (by assumption) ?_; rotate_left; (intro wq hSw; (try dsimp only at hSw); go_simp; (try with_reducible rfl)); rotate_left; (try dsimp only [Act.put]); (try simp only [List.setIfInBounds_toArray, List.set_cons_zero, List.set_cons_succ]))
  (refine wpAnyH_take (i := 2) (v := ?_) rfl (by kernel_rfl) (by kernel_rfl) (by kernel_rfl) (fun _ _ _ h => h) (Or.inl ⟨by rfl, ?_⟩) (by assumption) ?_; rotate_left; (intro wq hSw; (try dsimp only at hSw); go_simp; (try with_reducible rfl)); rotate_left; (try dsimp only [Act.put]); (try simp only [List.setIfInBounds_toArray, List.set_cons_zero, List.set_cons_succ]))
  refine wpAnyH_ready (rs := [0]) (by kernel_rfl) (by simp) ?_
  refine AllReadyH.cons rfl (fun K' hK => ?_) AllReadyH.nil
  rw [if_pos (by rfl)]
  go_simp
  go_at_call 23; (refine Calls.mono (rows_any (K := w.heap.size)) ?_); rintro e w2 ⟨M, rfl, hb2, hM⟩
  have hB2 : Below w.heap.size w w2 := bl_then hB1 (bl_then (bl_drew (Below.refl _ _)) hb2)
  have oK2 : OwnL w2 w.heap.size (arC v1 v2 v3 a) := (oK.drew).trk hb2
  have hs2 : w1.heap.size ≤ w2.heap.size := hb2.size
  go_wp2_with fail
  refine hK.out _ _ (oK2.2.1 0) fun hS1 => ?_
  (try dsimp only [Act.put]); (try simp only [List.setIfInBounds_toArray, List.set_cons_zero, List.set_cons_succ])
  clear hK K' hS0 g0 oK hb2 hB1
  refine wpAnyH_ready (rs := [3]) (by kernel_rfl) (by simp) ?_
  refine AllReadyH.cons rfl (fun K' hK => ?_) AllReadyH.nil
  rw [if_pos (by rfl)]
  refine oper_row hM HW.out.proc _ _ rfl rfl rfl fun rv hrv => ?_
  refine hK.out _ _ (oK2.2.1 0) fun hS2 => ?_
  (try dsimp only [Act.put]); (try simp only [List.setIfInBounds_toArray, List.set_cons_zero, List.set_cons_succ])
  clear hK K' hS1
  (refine wpAnyH_take (i := 4) (v := ?_) rfl (by kernel_rfl) (by kernel_rfl) (by kernel_rfl) (fun _ _ _ h => h) (Or.inl ⟨by rfl, ?_⟩) (by assumption) ?_; rotate_left; (intro wq hSw; (try dsimp only at hSw); go_simp; (try with_reducible rfl)); rotate_left; (try dsimp only [Act.put]); (try simp only [List.setIfInBounds_toArray, List.set_cons_zero, List.set_cons_succ]))
  (refine wpAnyH_take (i := 5) (v := ?_) rfl (by kernel_rfl) (by kernel_rfl) (by kernel_rfl) (fun _ _ _ h => h) (Or.inl ⟨by rfl, ?_⟩) (by assumption) ?_; rotate_left; (intro wq hSw; (try dsimp only at hSw); go_simp; (try with_reducible rfl)); rotate_left; (try dsimp only [Act.put]); (try simp only [List.setIfInBounds_toArray, List.set_cons_zero, List.set_cons_succ]))
  (refine wpAnyH_take (i := 6) (v := ?_) rfl (by kernel_rfl) (by kernel_rfl) (by kernel_rfl) (fun _ _ _ h => h) (Or.inl ⟨by rfl, ?_⟩) (by assumption) ?_; rotate_left; (intro wq hSw; (try dsimp only at hSw); go_simp; (try with_reducible rfl)); rotate_left; (try dsimp only [Act.put]); (try simp only [List.setIfInBounds_toArray, List.set_cons_zero, List.set_cons_succ]))
  (refine wpAnyH_take (i := 7) (v := ?_) rfl (by kernel_rfl) (by kernel_rfl) (by kernel_rfl) (fun _ _ _ h => h) (Or.inl ⟨by rfl, ?_⟩) (by assumption) ?_; rotate_left; (intro wq hSw; (try dsimp only at hSw); go_simp; (try with_reducible rfl)); rotate_left; (try dsimp only [Act.put]); (try simp only [List.setIfInBounds_toArray, List.set_cons_zero, List.set_cons_succ]))
  (refine wpAnyH_take (i := 8) (v := ?_) rfl (by kernel_rfl) (by kernel_rfl) (by kernel_rfl) (fun _ _ _ h => h) (Or.inl ⟨by rfl, ?_⟩) (by assumption) ?_; rotate_left; (intro wq hSw; (try dsimp only at hSw); go_simp; (try with_reducible rfl)); rotate_left; (try dsimp only [Act.put]); (try simp only [List.setIfInBounds_toArray, List.set_cons_zero, List.set_cons_succ]))
  refine wpAnyH_done (by kernel_rfl) ?_ _
  have HRow := Lib.hid hrv
  clear hS2 hrv hM
  rcases Nat.lt_or_ge 21 a.proc with hlt | hle
  · have hd : decide (a.proc ≤ 21) = false := decide_eq_false (by omega)
    rw [hd]
    clear HRow hd
    go_wp2
    go_ret2
    exact ⟨hB2, .inr ⟨1, by rw [putA, if_pos hlt], rfl⟩⟩
  have hd : decide (a.proc ≤ 21) = true := decide_eq_true hle
  rw [hd]
  have HRow := Lib.hid (HRow.out hle)
  clear hd
  go_upto_region 5 with fail
  refine wp_world (fun wx => OwnL wx w2.heap.size (roadC nilS 0 false 0) ∧ Below w2.heap.size w2 wx) ⟨OwnL.made w2 (roadC nilS 0 false 0) 69, by (with_reducible (repeat' (first | exact Below.refl _ _ | assumption | apply bl_alloc | apply bl_drewN | apply bl_drew | refine bl_set ?_ ?_ _))) <;> (first | done | (simp; done) | (simp; omega) | omega)⟩ ?_
  rintro w3 ⟨oR, hB3⟩
  have HAt := Lib.hid (show ArAt (· < w.heap.size) w.heap.size w3 a v1 v2 v3 from ⟨oK2.trk hB3, (H1.out.below hB2).below hB3, (H2.out.below hB2).below hB3, (H3.out.below hB2).below hB3, fun g hg => rd_block H1.out hg, fun g hg => rd_block H2.out hg, fun g hg => rd_block H3.out hg⟩)
  have HRep := Lib.hid (show ArRep (· < w.heap.size) w.heap.size w3 a from ⟨HW.out, v1, v2, v3, HAt.out⟩)
  have hKR : w.heap.size < w2.heap.size := Nat.lt_of_lt_of_le hKl hs2
  obtain ⟨qs, hpl, hqs, hqk, hqn⟩ := HRow.out
  have hql : qs.length ≤ 5 := by
    have e : qs.length = (rowsOf a.proc).length := by rw [← hqs, List.length_map]
    rw [e]
    exact rows_len a.proc hle
  have hRW : RepW (ArRep (· < w.heap.size) w.heap.size) w2.heap.size (· = w2.heap.size) w2 := ArRep.repW (fun g (hg : g < w.heap.size) => ⟨by omega, by omega⟩) ⟨by omega, hKR⟩ rfl
  have hIs : ∀ q ∈ qs.map (fun q => (q.1, pkWr q.2)), IsWr (ArRep (· < w.heap.size) w.heap.size) w2.heap.size (· = w2.heap.size) w2 q.1 q.2 40000 := fun q hq => by
    obtain ⟨q0, hq0, rfl⟩ := List.mem_map.1 hq
    exact pk_wr hRW (by omega) (hqk q0 hq0) fun i h1 h2 h => by omega
  have HLen : ∀ bs, seqW (partsOf a.proc) a = .ok bs → bs.length ≤ 1000000000 := fun bs hb => by
    rw [← row_wr a.proc hle, ← hqs] at hb
    have := seqQ_len (ps := qs.map (fun q => (q.1, pkWr q.2))) hIs HRep.out (bs := bs) (by rw [List.map_map]; rw [List.map_map] at hb; exact hb)
    rw [List.length_map] at this
    omega
  have HDo := Lib.hid (Do_anyW (Rep := ArRep (· < w.heap.size) w.heap.size) (R := w2.heap.size) (Q := (· = w2.heap.size)) (w0 := w2) (w := w3) (ps := qs.map fun q => (q.1, pkWr q.2)) (v := rv) (bv := nilS) (s := a) (d := 40000) (e := 0) (acc := []) hRW hIs (by rw [List.map_map]; exact hpl) (fun g hg h => by
      have := hqn g hg
      omega) (Only.ne_ _ hB3) HRep.out oR (fun _ => ⟨OwnB.nil w3 0, fun g hg => by (cases hg), by rw [List.length_map, List.length_nil]; omega⟩))
  rw [show (qs.map fun q => (q.1, pkWr q.2)).map (·.2) = (qs.map (·.2)).map pkWr from by rw [List.map_map, List.map_map]; rfl, hqs, row_wr a.proc hle] at HDo
  clear HRow hpl hqs hqk hqn hql HRep hRW hIs oK2
  have HB3 := Lib.hid (bl_then hB2 hB3)
  have hs3 := hB3.size
  have hs4 := oR.1
  clear hB2 hB3
  go_upto_region 6 with (go_at_call 24; (refine Calls.mono HDo.out ?_); rintro e w4 ⟨rfl, o4, v4, e4, oR4, hst⟩; (have HSt := Lib.hid hst); (have Ho4 := Lib.hid o4); clear hst o4)
  have hs5 := Ho4.out.size
  have hB4 : Below w.heap.size w w4 := ⟨Ho4.out.os.trans HB3.out.os, Ho4.out.tape.trans HB3.out.tape, Ho4.out.output.trans HB3.out.output, Nat.le_trans HB3.out.size Ho4.out.size, fun i hi => (Ho4.out.block i (Nat.lt_of_lt_of_le hi HB3.out.size) (fun h => by
    rcases h with h | ⟨_, h⟩
    · omega
    · cases h)).trans (HB3.out.block i hi)⟩
  have hAt4 : ArAt (· < w.heap.size) w.heap.size w4 a v1 v2 v3 := HAt.out.only Ho4.out (fun h => by
    rcases h with h | ⟨_, h⟩
    · omega
    · cases h) (fun g (hg : g < w.heap.size) h => by
    rcases h with h | ⟨_, h⟩
    · omega
    · cases h)
  have HAt4 := Lib.hid hAt4
  have g3 : w4.cell? ⟨w2.heap.size, 3, none⟩ = some (.int .i64 e4) := oR4.2.1 3
  have HB4 := Lib.hid hB4
  clear HB3 HAt oR HDo hAt4 hB4
  have hst : (e4 = 0 ∧ ∃ bs, seqW (partsOf a.proc) a = .ok bs ∧ OwnB w4 w.heap.size v4 bs) ∨ (e4 ≠ 0 ∧ ∃ er, seqW (partsOf a.proc) a = .error er) := by
    rcases HSt.out with ⟨h, _⟩ | ⟨_, ⟨h0, bs, h1, h2, h3⟩ | h⟩
    · exact absurd rfl h
    · refine .inl ⟨h0, bs, h1, OwnB.rebase h2 fun g hg => ?_⟩
      rcases h3 with h3 | h3
      · rw [h3] at hg; cases hg
      · have := h3 g hg; omega
    · exact .inr h
  clear HSt
  rcases hst with ⟨rfl, bs, hq, hO⟩ | ⟨hne, er, hq⟩
  case inr =>
    have hb0 : (e4 == 0) = false := beq_eq_false_iff_ne.2 hne
    clear hne
    have HQ := Lib.hid hq
    clear hq Ho4
    go_wp2
    go_ret2
    exact ⟨HB4.out, .inr ⟨1, by rw [putA, if_neg (by omega), HQ.out], rfl⟩⟩
  have HQ := Lib.hid hq
  have HO := Lib.hid hO
  have HN := Lib.hid (HLen bs hq)
  clear HLen
  clear hq hO Ho4 g3
  have g1 : w4.cell? ⟨w.heap.size, 0, none⟩ = some (.int .u32 a.proc) := HAt4.out.own.2.1 0
  have g2 : w4.cell? ⟨w2.heap.size, 0, none⟩ = some v4 := oR4.2.1 0
  have h34 : w4.cell? ⟨w2.heap.size, 3, none⟩ = some (.int .i64 0) := oR4.2.1 3
  go_upto_region 8 with fail
  go_cut [7, 8] from 28 (fun s7 s8 wx => ∃ X er cs, s7 = .pointer (some ⟨X, 0, none⟩) ∧ s8 = .int .i64 er ∧ Hid (GotCs a.proc bs w.heap.size wx cs er) ∧ Hid (Below w4.heap.size w4 wx) ∧ w4.heap.size ≤ X ∧ OwnL wx X cs)
  case first =>
    rename_i J K2 hJ hK2
    refine wp_region_held_drew (S := fun wq => wq.cell? ⟨w.heap.size, 0, none⟩ = some (.int .u32 a.proc) ∧ wq.cell? ⟨w2.heap.size, 0, none⟩ = some v4) rfl ⟨g1, g2⟩ fun hS0 => ?_
    (refine wpAnyH_take (i := 0) (v := ?_) rfl (by kernel_rfl) (by kernel_rfl) (by kernel_rfl) (fun _ _ _ h => h) (Or.inl ⟨by rfl, ?_⟩) (by assumption) ?_; rotate_left; (intro wq hSw; (try dsimp only at hSw); go_simp; (try with_reducible rfl)); rotate_left; (try dsimp only [Act.put]); (try simp only [List.setIfInBounds_toArray, List.set_cons_zero, List.set_cons_succ]))
    (refine wpAnyH_take (i := 1) (v := ?_) rfl (by kernel_rfl) (by kernel_rfl) (by kernel_rfl) (fun _ _ _ h => h) (Or.inl ⟨by rfl, ?_⟩) (by assumption) ?_; rotate_left; (intro wq hSw; (try dsimp only at hSw); go_simp; (try with_reducible rfl)); rotate_left; (try dsimp only [Act.put]); (try simp only [List.setIfInBounds_toArray, List.set_cons_zero, List.set_cons_succ]))
    (refine wpAnyH_take (i := 2) (v := ?_) rfl (by kernel_rfl) (by kernel_rfl) (by kernel_rfl) (fun _ _ _ h => h) (Or.inl ⟨by rfl, ?_⟩) (by assumption) ?_; rotate_left; (intro wq hSw; (try dsimp only at hSw); go_simp; (try with_reducible rfl)); rotate_left; (try dsimp only [Act.put]); (try simp only [List.setIfInBounds_toArray, List.set_cons_zero, List.set_cons_succ]))
    (refine wpAnyH_take (i := 3) (v := ?_) rfl (by kernel_rfl) (by kernel_rfl) (by kernel_rfl) (fun _ _ _ h => h) (Or.inl ⟨by rfl, ?_⟩) (by assumption) ?_; rotate_left; (intro wq hSw; (try dsimp only at hSw); go_simp; (try with_reducible rfl)); rotate_left; (try dsimp only [Act.put]); (try simp only [List.setIfInBounds_toArray, List.set_cons_zero, List.set_cons_succ]))
    (refine wpAnyH_take (i := 4) (v := ?_) rfl (by kernel_rfl) (by kernel_rfl) (by kernel_rfl) (fun _ _ _ h => h) (Or.inl ⟨by rfl, ?_⟩) (by assumption) ?_; rotate_left; (intro wq hSw; (try dsimp only at hSw); go_simp; (try with_reducible rfl)); rotate_left; (try dsimp only [Act.put]); (try simp only [List.setIfInBounds_toArray, List.set_cons_zero, List.set_cons_succ]))
    (refine wpAnyH_take (i := 5) (v := ?_) rfl (by kernel_rfl) (by kernel_rfl) (by kernel_rfl) (fun _ _ _ h => h) (Or.inl ⟨by rfl, ?_⟩) (by assumption) ?_; rotate_left; (intro wq hSw; (try dsimp only at hSw); go_simp; (try with_reducible rfl)); rotate_left; (try dsimp only [Act.put]); (try simp only [List.setIfInBounds_toArray, List.set_cons_zero, List.set_cons_succ]))
    refine wpAnyH_ready (rs := [6, 10]) (by kernel_rfl) (by simp) ?_
    refine AllReadyH.cons rfl (fun K' hK => ?_) (AllReadyH.cons rfl (fun K' hK => ?_) AllReadyH.nil)
    · rw [if_pos (by rfl)]
      go_simp
      go_at_call 13; (refine Calls.mono (Get_any HW.out.proc (HO.out.rd.below (bl_drew (Below.refl w4.heap.size w4))) HN.out) ?_); rintro e w5 hg
      obtain ⟨cs, er, rfl, HG, hcl, hone, hb5⟩ := got_cs (base := w.heap.size) hg HB4.out.size
      have hB5 : Below w4.heap.size w4 w5 := bl_then (bl_drew (Below.refl _ _)) hb5
      have hs6 : w4.heap.size ≤ w5.heap.size := hb5.size
      have g1' : w5.cell? ⟨w.heap.size, 0, none⟩ = some (.int .u32 a.proc) := ((bcell hB5).1 _ 0 (by omega)).trans g1
      have g2' : w5.cell? ⟨w2.heap.size, 0, none⟩ = some v4 := ((bcell hB5).1 _ 0 (by omega)).trans g2
      go_wp2_with fail
      refine hK.out _ _ ⟨g1', g2'⟩ fun hS1 => ?_
      (try simp only [List.getElem_toArray, List.getElem_cons_succ, List.getElem_cons_zero]); (try dsimp only [Act.put]); (try simp only [List.setIfInBounds_toArray, List.set_cons_zero, List.set_cons_succ])
      clear hK K' hS0
      (refine wpAnyH_take (i := 7) (v := ?_) rfl (by kernel_rfl) (by kernel_rfl) (by kernel_rfl) (fun _ _ _ h => h) (Or.inl ⟨by rfl, ?_⟩) (by assumption) ?_; rotate_left; (intro wq hSw; (try dsimp only at hSw); go_simp; (try with_reducible rfl)); rotate_left; (try dsimp only [Act.put]); (try simp only [List.setIfInBounds_toArray, List.set_cons_zero, List.set_cons_succ]))
      (refine wpAnyH_take (i := 8) (v := ?_) rfl (by kernel_rfl) (by kernel_rfl) (by kernel_rfl) (fun _ _ _ h => h) (Or.inl ⟨by rfl, ?_⟩) (by assumption) ?_; rotate_left; (intro wq hSw; (try dsimp only at hSw); go_simp; (try with_reducible rfl)); rotate_left; (try dsimp only [Act.put]); (try simp only [List.setIfInBounds_toArray, List.set_cons_zero, List.set_cons_succ]))
      (refine wpAnyH_take (i := 9) (v := ?_) rfl (by kernel_rfl) (by kernel_rfl) (by kernel_rfl) (fun _ _ _ h => h) (Or.inl ⟨by rfl, ?_⟩) (by assumption) ?_; rotate_left; (intro wq hSw; (try dsimp only at hSw); go_simp; (try with_reducible rfl)); rotate_left; (try dsimp only [Act.put]); (try simp only [List.setIfInBounds_toArray, List.set_cons_zero, List.set_cons_succ]))
      refine wpAnyH_ready (rs := [10]) (by kernel_rfl) (by simp) ?_
      refine AllReadyH.cons rfl (fun K' hK => ?_) AllReadyH.nil
      rw [if_pos (by rfl)]
      go_simp
      have hsz : cs.toArray.size = 40 := by rw [List.size_toArray, hcl]
      obtain ⟨wx, hwx, oX, hbx⟩ : ∃ wx, w5.alloc (.cells arZ.toArray 33) = wx ∧ OwnL wx w5.heap.size arZ ∧ Below w5.heap.size w5 wx := ⟨_, rfl, OwnL.made w5 arZ _, bl_alloc (Below.refl _ _) _⟩
      have hwx2 : w5.alloc (.cells #[.int .u32 0, .slice none 0 0, .string ⟨#[]⟩, .slice none 0 0, .string ⟨#[]⟩, .bool false, .int .u32 0, .bool false, .int .u32 0, .bool false, .int .u32 0, .bool false, .int .u64 0, .int .u32 0, .int .u32 0, .int .u32 0, .int .u32 0, .int .u32 0, .int .u32 0, .bool false, .int .u32 0, .int .u32 0, .int .u32 0, .int .u64 0, .int .u32 0, .int .u32 0, .int .u32 0, .slice none 0 0, .string ⟨#[]⟩, .int .u32 0, .int .u32 0, .int .u8 0, .int .u8 0, .int .u8 0, .int .u8 0, .int .u8 0, .int .u8 0, .int .u8 0, .int .u8 0, .int .u64 0] 33) = wx := hwx
      have g1y : wx.cell? ⟨w.heap.size, 0, none⟩ = some (.int .u32 a.proc) := ((bcell hbx).1 _ 0 (by omega)).trans g1'
      have g2y : wx.cell? ⟨w2.heap.size, 0, none⟩ = some v4 := ((bcell hbx).1 _ 0 (by omega)).trans g2'
      have hlx := oX.1
      have hbs := hbx.size
      try rw [hwx2]
      refine hK.out _ _ ⟨g1y, g2y⟩ fun hS2 => ?_
      (try simp only [List.getElem_toArray, List.getElem_cons_succ, List.getElem_cons_zero]); (try dsimp only [Act.put]); (try simp only [List.setIfInBounds_toArray, List.set_cons_zero, List.set_cons_succ])
      clear hK K' hS1 hwx hwx2
      refine wpAnyH_ready (rs := [11]) (by kernel_rfl) (by simp) ?_
      refine AllReadyH.cons rfl (fun K' hK => ?_) AllReadyH.nil
      rw [if_pos (by rfl)]
      refine wp_store_mid _ _ _ rfl w5.heap.size 0 cs.toArray rfl rfl (by rw [hsz]; exact oX.there) (by rw [hsz]; kernel_rfl) (all_oneCell_toArray hone) ?_
      have oX2 : OwnL (wx.setCells w5.heap.size 0 cs) w5.heap.size cs := oX.sets hcl
      have g1x : (wx.setCells w5.heap.size 0 cs).cell? ⟨w.heap.size, 0, none⟩ = some (.int .u32 a.proc) := ((only_setCells (o := 0) (vs := cs)).cell (a := ⟨w.heap.size, 0, none⟩) (by first | omega | (simp; omega)) (by first | omega | (simp; omega))).trans g1y
      have g2x : (wx.setCells w5.heap.size 0 cs).cell? ⟨w2.heap.size, 0, none⟩ = some v4 := ((only_setCells (o := 0) (vs := cs)).cell (a := ⟨w2.heap.size, 0, none⟩) (by first | omega | (simp; omega)) (by first | omega | (simp; omega))).trans g2y
      refine hK.out _ _ ⟨g1x, g2x⟩ fun hS3 => ?_
      (try simp only [List.getElem_toArray, List.getElem_cons_succ, List.getElem_cons_zero]); (try dsimp only [Act.put]); (try simp only [List.setIfInBounds_toArray, List.set_cons_zero, List.set_cons_succ])
      clear hK K'
      (refine wpAnyH_take (i := 12) (v := ?_) rfl (by kernel_rfl) (by kernel_rfl) (by kernel_rfl) (fun _ _ _ h => h) (Or.inl ⟨by rfl, ?_⟩) (by assumption) ?_; rotate_left; (intro wq hSw; (try dsimp only at hSw); go_simp; (try with_reducible rfl)); rotate_left; (try dsimp only [Act.put]); (try simp only [List.setIfInBounds_toArray, List.set_cons_zero, List.set_cons_succ])); (try simp only [List.getElem_toArray, List.getElem_cons_succ, List.getElem_cons_zero]); (try dsimp only [Act.put]); (try simp only [List.setIfInBounds_toArray, List.set_cons_zero, List.set_cons_succ])
      refine wpAnyH_done (by kernel_rfl) ?_ _
      (first | refine hK2 _ _ (Met.intro ?_) | refine Met.intro ?_ | skip)
      refine hJ _ _ ?_
      (repeat apply Exists.intro)
      refine ⟨?_, rfl⟩
      exact ⟨w5.heap.size, er, cs, rfl, rfl, Lib.hid (HG.out.only ((Only.ne_ (· = w5.heap.size) hbx).trans only_setCells) (Nat.le_refl _)), Lib.hid (bl_setCells (bl_then hB5 hbx) hs6), hs6, oX2⟩
    · rw [if_pos (by rfl)]
      go_simp
      obtain ⟨wx, hwx, oX, hbx⟩ : ∃ wx, (w4.alloc (.cells arZ.toArray 33)).drew = wx ∧ OwnL wx w4.heap.size arZ ∧ Below w4.heap.size w4 wx := ⟨_, rfl, (OwnL.made w4 arZ _).drew, bl_drew (bl_alloc (Below.refl _ _) _)⟩
      have hwx2 : (w4.alloc (.cells #[.int .u32 0, .slice none 0 0, .string ⟨#[]⟩, .slice none 0 0, .string ⟨#[]⟩, .bool false, .int .u32 0, .bool false, .int .u32 0, .bool false, .int .u32 0, .bool false, .int .u64 0, .int .u32 0, .int .u32 0, .int .u32 0, .int .u32 0, .int .u32 0, .int .u32 0, .bool false, .int .u32 0, .int .u32 0, .int .u32 0, .int .u64 0, .int .u32 0, .int .u32 0, .int .u32 0, .slice none 0 0, .string ⟨#[]⟩, .int .u32 0, .int .u32 0, .int .u8 0, .int .u8 0, .int .u8 0, .int .u8 0, .int .u8 0, .int .u8 0, .int .u8 0, .int .u8 0, .int .u64 0] 33)).drew = wx := hwx
      have g1y : wx.cell? ⟨w.heap.size, 0, none⟩ = some (.int .u32 a.proc) := ((bcell hbx).1 _ 0 (by omega)).trans g1
      have g2y : wx.cell? ⟨w2.heap.size, 0, none⟩ = some v4 := ((bcell hbx).1 _ 0 (by omega)).trans g2
      have hlx : w4.heap.size < wx.heap.size := oX.1
      try rw [hwx2]
      refine hK.out _ _ ⟨g1y, g2y⟩ fun hS2 => ?_
      (try simp only [List.getElem_toArray, List.getElem_cons_succ, List.getElem_cons_zero]); (try dsimp only [Act.put]); (try simp only [List.setIfInBounds_toArray, List.set_cons_zero, List.set_cons_succ])
      clear hK K' hS0 hwx hwx2
      refine wpAnyH_ready (rs := [6]) (by kernel_rfl) (by simp) ?_
      refine AllReadyH.cons rfl (fun K' hK => ?_) AllReadyH.nil
      rw [if_pos (by rfl)]
      go_simp
      go_at_call 13; (refine Calls.mono (Get_any HW.out.proc (HO.out.rd.below hbx) HN.out) ?_); rintro e w6 hg
      obtain ⟨cs, er, rfl, HG, hcl, hone, hb6⟩ := got_cs (base := wx.heap.size) hg (Nat.le_refl _)
      have hB6 : Below w4.heap.size w4 w6 := bl_then hbx hb6
      have oX := oX.trk hb6
      have hsz : cs.toArray.size = 40 := by rw [List.size_toArray, hcl]
      have hlz : w4.heap.size < w6.heap.size := oX.1
      have g1z : w6.cell? ⟨w.heap.size, 0, none⟩ = some (.int .u32 a.proc) := ((bcell hB6).1 _ 0 (by omega)).trans g1
      have g2z : w6.cell? ⟨w2.heap.size, 0, none⟩ = some v4 := ((bcell hB6).1 _ 0 (by omega)).trans g2
      go_wp2_with fail
      refine hK.out _ _ ⟨g1z, g2z⟩ fun hS1 => ?_
      (try simp only [List.getElem_toArray, List.getElem_cons_succ, List.getElem_cons_zero]); (try dsimp only [Act.put]); (try simp only [List.setIfInBounds_toArray, List.set_cons_zero, List.set_cons_succ])
      clear hK K' hS2
      (refine wpAnyH_take (i := 7) (v := ?_) rfl (by kernel_rfl) (by kernel_rfl) (by kernel_rfl) (fun _ _ _ h => h) (Or.inl ⟨by rfl, ?_⟩) (by assumption) ?_; rotate_left; (intro wq hSw; (try dsimp only at hSw); go_simp; (try with_reducible rfl)); rotate_left; (try dsimp only [Act.put]); (try simp only [List.setIfInBounds_toArray, List.set_cons_zero, List.set_cons_succ]))
      (refine wpAnyH_take (i := 8) (v := ?_) rfl (by kernel_rfl) (by kernel_rfl) (by kernel_rfl) (fun _ _ _ h => h) (Or.inl ⟨by rfl, ?_⟩) (by assumption) ?_; rotate_left; (intro wq hSw; (try dsimp only at hSw); go_simp; (try with_reducible rfl)); rotate_left; (try dsimp only [Act.put]); (try simp only [List.setIfInBounds_toArray, List.set_cons_zero, List.set_cons_succ]))
      (refine wpAnyH_take (i := 9) (v := ?_) rfl (by kernel_rfl) (by kernel_rfl) (by kernel_rfl) (fun _ _ _ h => h) (Or.inl ⟨by rfl, ?_⟩) (by assumption) ?_; rotate_left; (intro wq hSw; (try dsimp only at hSw); go_simp; (try with_reducible rfl)); rotate_left; (try dsimp only [Act.put]); (try simp only [List.setIfInBounds_toArray, List.set_cons_zero, List.set_cons_succ]))
      refine wpAnyH_ready (rs := [11]) (by kernel_rfl) (by simp) ?_
      refine AllReadyH.cons rfl (fun K' hK => ?_) AllReadyH.nil
      rw [if_pos (by rfl)]
      refine wp_store_mid _ _ _ rfl w4.heap.size 0 cs.toArray rfl rfl (by rw [hsz]; exact oX.there) (by rw [hsz]; kernel_rfl) (all_oneCell_toArray hone) ?_
      have oX2 : OwnL (w6.setCells w4.heap.size 0 cs) w4.heap.size cs := oX.sets hcl
      have g1x : (w6.setCells w4.heap.size 0 cs).cell? ⟨w.heap.size, 0, none⟩ = some (.int .u32 a.proc) := ((only_setCells (o := 0) (vs := cs)).cell (a := ⟨w.heap.size, 0, none⟩) (by first | omega | (simp; omega)) (by first | omega | (simp; omega))).trans g1z
      have g2x : (w6.setCells w4.heap.size 0 cs).cell? ⟨w2.heap.size, 0, none⟩ = some v4 := ((only_setCells (o := 0) (vs := cs)).cell (a := ⟨w2.heap.size, 0, none⟩) (by first | omega | (simp; omega)) (by first | omega | (simp; omega))).trans g2z
      refine hK.out _ _ ⟨g1x, g2x⟩ fun hS3 => ?_
      (try simp only [List.getElem_toArray, List.getElem_cons_succ, List.getElem_cons_zero]); (try dsimp only [Act.put]); (try simp only [List.setIfInBounds_toArray, List.set_cons_zero, List.set_cons_succ])
      clear hK K'
      (refine wpAnyH_take (i := 12) (v := ?_) rfl (by kernel_rfl) (by kernel_rfl) (by kernel_rfl) (fun _ _ _ h => h) (Or.inl ⟨by rfl, ?_⟩) (by assumption) ?_; rotate_left; (intro wq hSw; (try dsimp only at hSw); go_simp; (try with_reducible rfl)); rotate_left; (try dsimp only [Act.put]); (try simp only [List.setIfInBounds_toArray, List.set_cons_zero, List.set_cons_succ])); (try simp only [List.getElem_toArray, List.getElem_cons_succ, List.getElem_cons_zero]); (try dsimp only [Act.put]); (try simp only [List.setIfInBounds_toArray, List.set_cons_zero, List.set_cons_succ])
      refine wpAnyH_done (by kernel_rfl) ?_ _
      (first | refine hK2 _ _ (Met.intro ?_) | refine Met.intro ?_ | skip)
      refine hJ _ _ ?_
      (repeat apply Exists.intro)
      refine ⟨?_, rfl⟩
      exact ⟨w4.heap.size, er, cs, rfl, rfl, Lib.hid (HG.out.onlyLow only_setCells hlx (Nat.le_trans HB4.out.size (Nat.le_of_lt hlx))), Lib.hid (bl_setCells hB6 (Nat.le_refl _)), Nat.le_refl _, oX2⟩
  case rest =>
  obtain ⟨X, er, cs, rfl, rfl, HG, HBc, hX, oX⟩ := hcut
  have HAc := Lib.hid (HAt4.out.only (Only.ne_ (fun _ => False) HBc.out) (fun h => h) (fun _ _ h => h))
  have hsc := HBc.out.size
  have HP0 := Lib.hid (show putA a = match getA a.proc bs with | .error _ => .error 1 | .ok x => if x = a then .ok bs else .error 1 from by rw [putA, if_neg (by omega), HQ.out]; rfl)
  clear g1 g2 h34 HAt4 HN HQ
  go_upto_region 9 with fail
  go_cut [46] from 47 (fun s46 wx => ∃ b : Bool, s46 = .bool b ∧ Hid ((b = true ∧ putA a = .error 1) ∨ (b = false ∧ putA a = .ok bs)) ∧ Hid (Below w4.heap.size w4 wx))
  case first =>
    rename_i J K2 hJ hK2
    rcases HG.out with ⟨x, u1, u2, u3, hget, hout, rfl, rfl⟩ | ⟨hget, hne, rfl⟩
    case inr =>
      have hb0 : (er == 0) = false := beq_eq_false_iff_ne.2 hne
      have HPe := Lib.hid (show putA a = .error 1 from by rw [HP0.out, hget])
      have HNe := Lib.hid hne
      clear hget hne HP0 HG
      refine wp_region_held_drew (S := fun wq => True) rfl trivial fun hS0 => ?_
      (refine wpAnyH_take (i := 0) (v := ?_) rfl (by kernel_rfl) (by kernel_rfl) (by kernel_rfl) (fun _ _ _ h => h) (Or.inl ⟨by rfl, ?_⟩) (by assumption) ?_; rotate_left; (intro wq hSw; (try dsimp only at hSw); go_simp; (try with_reducible rfl)); rotate_left; (try dsimp only [Act.put]); (try simp only [List.setIfInBounds_toArray, List.set_cons_zero, List.set_cons_succ])); (try simp only [List.getElem_toArray, List.getElem_cons_succ, List.getElem_cons_zero]); (try dsimp only [Act.put]); (try simp only [List.setIfInBounds_toArray, List.set_cons_zero, List.set_cons_succ])
      refine wpAnyH_take (i := 1) (v := .bool true) rfl (by kernel_rfl) (by kernel_rfl) (by kernel_rfl) (fun _ _ _ h => h) (Or.inl ⟨by rfl, ?_⟩) (by assumption) ?_
      · intro wq hSw
        have hne := HNe.out
        go_simp
        try simp [hne]
      (try simp only [List.getElem_toArray, List.getElem_cons_succ, List.getElem_cons_zero]); (try dsimp only [Act.put]); (try simp only [List.setIfInBounds_toArray, List.set_cons_zero, List.set_cons_succ])
      (refine wpAnyH_take (i := 2) (v := ?_) rfl (by kernel_rfl) (by kernel_rfl) (by kernel_rfl) (fun _ _ _ h => h) (Or.inl ⟨by rfl, ?_⟩) (by assumption) ?_; rotate_left; (intro wq hSw; (try dsimp only at hSw); go_simp; (try with_reducible rfl)); rotate_left; (try dsimp only [Act.put]); (try simp only [List.setIfInBounds_toArray, List.set_cons_zero, List.set_cons_succ])); (try simp only [List.getElem_toArray, List.getElem_cons_succ, List.getElem_cons_zero]); (try dsimp only [Act.put]); (try simp only [List.setIfInBounds_toArray, List.set_cons_zero, List.set_cons_succ])
      refine wpAnyH_take (i := 3) (v := undef) rfl (by kernel_rfl) (by kernel_rfl) (by kernel_rfl) (fun _ _ _ h => h) (Or.inr ⟨by kernel_rfl, rfl⟩) (by assumption) ?_; (try dsimp only [Act.put]); (try simp only [List.setIfInBounds_toArray, List.set_cons_zero, List.set_cons_succ]); (try simp only [List.getElem_toArray, List.getElem_cons_succ, List.getElem_cons_zero]); (try dsimp only [Act.put]); (try simp only [List.setIfInBounds_toArray, List.set_cons_zero, List.set_cons_succ])
      refine wpAnyH_take (i := 4) (v := undef) rfl (by kernel_rfl) (by kernel_rfl) (by kernel_rfl) (fun _ _ _ h => h) (Or.inr ⟨by kernel_rfl, rfl⟩) (by assumption) ?_; (try dsimp only [Act.put]); (try simp only [List.setIfInBounds_toArray, List.set_cons_zero, List.set_cons_succ]); (try simp only [List.getElem_toArray, List.getElem_cons_succ, List.getElem_cons_zero]); (try dsimp only [Act.put]); (try simp only [List.setIfInBounds_toArray, List.set_cons_zero, List.set_cons_succ])
      refine wpAnyH_take (i := 5) (v := undef) rfl (by kernel_rfl) (by kernel_rfl) (by kernel_rfl) (fun _ _ _ h => h) (Or.inr ⟨by kernel_rfl, rfl⟩) (by assumption) ?_; (try dsimp only [Act.put]); (try simp only [List.setIfInBounds_toArray, List.set_cons_zero, List.set_cons_succ]); (try simp only [List.getElem_toArray, List.getElem_cons_succ, List.getElem_cons_zero]); (try dsimp only [Act.put]); (try simp only [List.setIfInBounds_toArray, List.set_cons_zero, List.set_cons_succ])
      refine wpAnyH_take (i := 6) (v := undef) rfl (by kernel_rfl) (by kernel_rfl) (by kernel_rfl) (fun _ _ _ h => h) (Or.inr ⟨by kernel_rfl, rfl⟩) (by assumption) ?_; (try dsimp only [Act.put]); (try simp only [List.setIfInBounds_toArray, List.set_cons_zero, List.set_cons_succ]); (try simp only [List.getElem_toArray, List.getElem_cons_succ, List.getElem_cons_zero]); (try dsimp only [Act.put]); (try simp only [List.setIfInBounds_toArray, List.set_cons_zero, List.set_cons_succ])
      refine wpAnyH_take (i := 7) (v := undef) rfl (by kernel_rfl) (by kernel_rfl) (by kernel_rfl) (fun _ _ _ h => h) (Or.inr ⟨by kernel_rfl, rfl⟩) (by assumption) ?_; (try dsimp only [Act.put]); (try simp only [List.setIfInBounds_toArray, List.set_cons_zero, List.set_cons_succ]); (try simp only [List.getElem_toArray, List.getElem_cons_succ, List.getElem_cons_zero]); (try dsimp only [Act.put]); (try simp only [List.setIfInBounds_toArray, List.set_cons_zero, List.set_cons_succ])
      (refine wpAnyH_take (i := 8) (v := ?_) rfl (by kernel_rfl) (by kernel_rfl) (by kernel_rfl) (fun _ _ _ h => h) (Or.inl ⟨by rfl, ?_⟩) (by assumption) ?_; rotate_left; (intro wq hSw; (try dsimp only at hSw); go_simp; (try with_reducible rfl)); rotate_left; (try dsimp only [Act.put]); (try simp only [List.setIfInBounds_toArray, List.set_cons_zero, List.set_cons_succ])); (try simp only [List.getElem_toArray, List.getElem_cons_succ, List.getElem_cons_zero]); (try dsimp only [Act.put]); (try simp only [List.setIfInBounds_toArray, List.set_cons_zero, List.set_cons_succ])
      refine wpAnyH_done (by kernel_rfl) ?_ _
      (first | refine hK2 _ _ (Met.intro ?_) | refine Met.intro ?_ | skip)
      refine hJ _ _ ?_
      (repeat apply Exists.intro)
      refine ⟨?_, rfl⟩
      exact ⟨true, rfl, Lib.hid (.inl ⟨rfl, HPe.out⟩), Lib.hid (bl_drew HBc.out)⟩
    case inl =>
      have hRun : ∃ r : Bool, (r = true ↔ x = a) ∧ ∀ wx : World, (Op.equalIn 10000 71 (.agg (allL x).toArray) (.agg (allL a).toArray)).run Tryz.prog wx = .ok r wx := eq_all (d := 9995) x a hout.wf.verf HW.out.verf
      obtain ⟨r, hr, hrun⟩ := hRun
      have HPr := Lib.hid (show (r = true ∧ putA a = .ok bs) ∨ (r = false ∧ putA a = .error 1) from by
        rw [HP0.out, hget]
        cases r
        · exact .inr ⟨rfl, if_neg fun h => absurd (hr.2 h) (by decide)⟩
        · exact .inl ⟨rfl, if_pos (hr.1 rfl)⟩)
      have hgt : Tryz.prog.eqGuardType Tryz.prog.depth 71 = false := by kernel_rfl
      have HXall := Lib.hid (fun wy (hb : Below wc.heap.size wc wy) => All_any (w := wy) (a := x) (v1 := u1) (v2 := u2) (v3 := u3) hout.wf (hout.h1.below hb) (hout.h2.below hb) (hout.h3.below hb))
      have HAall := Lib.hid (fun wy (hb : Below wc.heap.size wc wy) => All_any (w := wy) (a := a) (v1 := v1) (v2 := v2) (v3 := v3) HW.out (HAc.out.h1.below hb) (HAc.out.h2.below hb) (HAc.out.h3.below hb))
      have lx : (arC u1 u2 u3 x).length = 40 := arC_len hout.wf.verf
      have la : (arC v1 v2 v3 a).length = 40 := arC_len HW.out.verf
      have oA := HAc.out.own
      clear hget HG HP0 hr HAc hout
      refine wp_region_held_drew (S := fun wq => Hid (OwnL wq X (arC u1 u2 u3 x) ∧ OwnL wq w.heap.size (arC v1 v2 v3 a))) rfl (Lib.hid ⟨oX.drew, oA.drew⟩) fun hS0 => ?_
      (refine wpAnyH_take (i := 0) (v := ?_) rfl (by kernel_rfl) (by kernel_rfl) (by kernel_rfl) (fun _ _ _ h => h) (Or.inl ⟨by rfl, ?_⟩) (by assumption) ?_; rotate_left; (intro wq hSw; (try dsimp only at hSw); go_simp; (try with_reducible rfl)); rotate_left; (try dsimp only [Act.put]); (try simp only [List.setIfInBounds_toArray, List.set_cons_zero, List.set_cons_succ])); (try simp only [List.getElem_toArray, List.getElem_cons_succ, List.getElem_cons_zero]); (try dsimp only [Act.put]); (try simp only [List.setIfInBounds_toArray, List.set_cons_zero, List.set_cons_succ])
      (refine wpAnyH_take (i := 1) (v := ?_) rfl (by kernel_rfl) (by kernel_rfl) (by kernel_rfl) (fun _ _ _ h => h) (Or.inl ⟨by rfl, ?_⟩) (by assumption) ?_; rotate_left; (intro wq hSw; (try dsimp only at hSw); go_simp; (try with_reducible rfl)); rotate_left; (try dsimp only [Act.put]); (try simp only [List.setIfInBounds_toArray, List.set_cons_zero, List.set_cons_succ])); (try simp only [List.getElem_toArray, List.getElem_cons_succ, List.getElem_cons_zero]); (try dsimp only [Act.put]); (try simp only [List.setIfInBounds_toArray, List.set_cons_zero, List.set_cons_succ])
      (refine wpAnyH_take (i := 2) (v := ?_) rfl (by kernel_rfl) (by kernel_rfl) (by kernel_rfl) (fun _ _ _ h => h) (Or.inl ⟨by rfl, ?_⟩) (by assumption) ?_; rotate_left; (intro wq hSw; (try dsimp only at hSw); go_simp; (try with_reducible rfl)); rotate_left; (try dsimp only [Act.put]); (try simp only [List.setIfInBounds_toArray, List.set_cons_zero, List.set_cons_succ])); (try simp only [List.getElem_toArray, List.getElem_cons_succ, List.getElem_cons_zero]); (try dsimp only [Act.put]); (try simp only [List.setIfInBounds_toArray, List.set_cons_zero, List.set_cons_succ])
      refine wpAnyH_take (i := 3) (v := .agg (arC u1 u2 u3 x).toArray) rfl (by kernel_rfl) (by kernel_rfl) (by kernel_rfl) (fun _ _ _ h => h) (yieldsIf_load_mid (by kernel_rfl) _ _ rfl X 0 rfl (arC u1 u2 u3 x) _ (fun wq hq => hq.out.1.range) Tryz.underlying33 rfl (by rw [lx]; kernel_rfl)) hS0 ?_
      (try simp only [List.getElem_toArray, List.getElem_cons_succ, List.getElem_cons_zero]); (try dsimp only [Act.put]); (try simp only [List.setIfInBounds_toArray, List.set_cons_zero, List.set_cons_succ])
      refine wpAnyH_take (i := 5) (v := .agg (arC v1 v2 v3 a).toArray) rfl (by kernel_rfl) (by kernel_rfl) (by kernel_rfl) (fun _ _ _ h => h) (yieldsIf_load_mid (by kernel_rfl) _ _ rfl w.heap.size 0 rfl (arC v1 v2 v3 a) _ (fun wq hq => hq.out.2.range) Tryz.underlying33 rfl (by rw [la]; kernel_rfl)) hS0 ?_
      (try simp only [List.getElem_toArray, List.getElem_cons_succ, List.getElem_cons_zero]); (try dsimp only [Act.put]); (try simp only [List.setIfInBounds_toArray, List.set_cons_zero, List.set_cons_succ])
      refine wpAnyH_ready (rs := [4]) (by kernel_rfl) (by simp) ?_
      refine AllReadyH.cons rfl (fun K' hK => ?_) AllReadyH.nil
      rw [if_pos (by kernel_rfl)]
      go_simp
      go_at_call 25; (refine Calls.mono (HXall.out wc.drew (bl_drew (Below.refl _ _))) ?_); rintro e w6 ⟨rfl, b6⟩
      have B6 : Below wc.heap.size wc w6 := bl_then (bl_drew (Below.refl _ _)) b6
      have oX6 := oX.trk B6
      have oA6 := oA.trk B6
      go_wp2_with fail
      refine hK.out _ _ (Lib.hid ⟨oX6, oA6⟩) fun hS1 => ?_
      (try simp only [List.getElem_toArray, List.getElem_cons_succ, List.getElem_cons_zero]); (try dsimp only [Act.put]); (try simp only [List.setIfInBounds_toArray, List.set_cons_zero, List.set_cons_succ])
      clear hK K' hS0 b6
      refine wpAnyH_ready (rs := [6]) (by kernel_rfl) (by simp) ?_
      refine AllReadyH.cons rfl (fun K' hK => ?_) AllReadyH.nil
      rw [if_pos (by kernel_rfl)]
      go_simp
      go_at_call 25; (refine Calls.mono (HAall.out w6 B6) ?_); rintro e w7 ⟨rfl, b7⟩
      have B7 : Below wc.heap.size wc w7 := bl_then B6 b7
      have oX7 := oX.trk B7
      have oA7 := oA.trk B7
      go_wp2_with fail
      refine hK.out _ _ (Lib.hid ⟨oX7, oA7⟩) fun hS2 => ?_
      (try simp only [List.getElem_toArray, List.getElem_cons_succ, List.getElem_cons_zero]); (try dsimp only [Act.put]); (try simp only [List.setIfInBounds_toArray, List.set_cons_zero, List.set_cons_succ])
      clear hK K' hS1 b7
      (refine wpAnyH_take (i := 7) (v := ?_) rfl (by kernel_rfl) (by kernel_rfl) (by kernel_rfl) (fun _ _ _ h => h) (Or.inl ⟨by kernel_rfl, ?_⟩) (by assumption) ?_; rotate_left; (intro wq hSw; (try dsimp only at hSw); go_simp; (try with_reducible rfl)); rotate_left; (try dsimp only [Act.put]); (try simp only [List.setIfInBounds_toArray, List.set_cons_zero, List.set_cons_succ])); (try simp only [List.getElem_toArray, List.getElem_cons_succ, List.getElem_cons_zero]); (try dsimp only [Act.put]); (try simp only [List.setIfInBounds_toArray, List.set_cons_zero, List.set_cons_succ])
      (refine wpAnyH_take (i := 8) (v := ?_) rfl (by kernel_rfl) (by kernel_rfl) (by kernel_rfl) (fun _ _ _ h => h) (Or.inl ⟨by rfl, ?_⟩) (by assumption) ?_; rotate_left; (intro wq hSw; (try dsimp only at hSw); go_simp; (try with_reducible rfl)); rotate_left; (try dsimp only [Act.put]); (try simp only [List.setIfInBounds_toArray, List.set_cons_zero, List.set_cons_succ])); (try simp only [List.getElem_toArray, List.getElem_cons_succ, List.getElem_cons_zero]); (try dsimp only [Act.put]); (try simp only [List.setIfInBounds_toArray, List.set_cons_zero, List.set_cons_succ])
      refine wpAnyH_done (by kernel_rfl) ?_ _
      (first | refine hK2 _ _ (Met.intro ?_) | refine Met.intro ?_ | skip)
      refine hJ _ _ ?_
      (repeat apply Exists.intro)
      refine ⟨?_, rfl⟩
      refine ⟨!r, rfl, Lib.hid ?_, Lib.hid (bl_then HBc.out B7)⟩
      rcases HPr.out with ⟨rfl, h⟩ | ⟨rfl, h⟩
      · exact .inr ⟨rfl, h⟩
      · exact .inl ⟨rfl, h⟩
  case rest =>
  obtain ⟨b, rfl, HR, HBd⟩ := hcut
  have gB : wc.cell? ⟨w2.heap.size, 0, none⟩ = some v4 := ((bcell HBd.out).1 _ 0 oR4.1).trans (oR4.2.1 0)
  have hl2 : w2.heap.size < wc.heap.size := Nat.lt_of_lt_of_le oR4.1 HBd.out.size
  clear HG HP0 HBc
  rcases HR.out with ⟨rfl, h⟩ | ⟨rfl, h⟩
  · have HH := Lib.hid h
    clear h HR
    go_wp2
    go_ret2
    exact ⟨bl_then HB4.out HBd.out, .inr ⟨1, HH.out, rfl⟩⟩
  · have HH := Lib.hid h
    clear h HR
    go_wp2
    go_ret2
    exact ⟨bl_then HB4.out HBd.out, .inl ⟨bs, v4, HH.out, rfl, HO.out.below HBd.out⟩⟩
end Go.Proofs.YtgmhapjidbdhnaaGreat

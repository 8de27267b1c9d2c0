/- args.Get, walked: it comes to the plain getA. -/
import Derived.Test.YtgmhapjidbdhnaaGreatJQ
import Derived.Test.YtgmhapjidbdhnaaGreatJS
import Derived.Test.YtgmhapjidbdhnaaGreatJH
import Derived.Maps.OwnSet
set_option linter.unusedVariables false
set_option linter.unusedSimpArgs false
namespace Go.Proofs.YtgmhapjidbdhnaaGreat
open Go.RowKit
theorem results_cell2 {P : Program} {fn : Func} {tmps : Array Value} {w : World} {a c : Nat} {x : Value} {t : TypeId} {b : Nat} {l : List Value} {d : TypeDesc} (hr : fn.results = #[.cell a t, .tmp c]) (ht : tmps[a]? = some (.pointer (some ⟨b, 0, none⟩))) (hx : tmps[c]? = some x) (h : OwnL w b l)
    (hu : P.underlying t = some d) (hd : d.isRow = true) (hi : (P.info? t).map (·.size) = some l.length) : (results fn tmps).run P w = .ok (.tuple #[.agg l.toArray, x]) w := by
  have hv := run_loadVar_mid w b 0 t l d h.range hu hd hi
  simp [results, hr, ht, hx, asAddr, hv]
abbrev nilS : Value := .slice none 0 0
theorem arC_one {v1 v2 v3 : Value} {a : Ar} (h1 : v1.oneCell' = true) (h2 : v2.oneCell' = true) (h3 : v3.oneCell' = true) : ∀ v ∈ arC v1 v2 v3 a, v.oneCell' = true := by
  intro v hv
  simp only [arC, List.mem_append, List.mem_cons, List.not_mem_nil, or_false] at hv
  rcases hv with (((((hv | hv) | hv) | hv) | hv) | hv) | hv
  · rcases hv with rfl | rfl | rfl | rfl | rfl
    · rfl
    · exact h1
    · rfl
    · exact h2
    · rfl
  · exact encSet_one _ _ hv
  · subst hv; rfl
  · exact encT_one _ _ hv
  · rcases hv with rfl | rfl | rfl | rfl | rfl | rfl | rfl | rfl | rfl
    · rfl
    · rfl
    · rfl
    · rfl
    · rfl
    · exact h3
    · rfl
    · rfl
    · rfl
  · exact encV_one _ _ hv
  · subst hv; rfl
theorem Rd.one {w : World} {v : Value} {xs : List UInt8} (h : Rd w v xs) : v.oneCell' = true := by
  obtain ⟨A, n, c, rfl⟩ := h.isSlice
  rfl
theorem rd_block {w : World} {v : Value} {xs : List UInt8} {g : Nat} (h : Rd w v xs) (hg : Value.inBlock v = some g) : g < w.heap.size := by
  rcases h with ⟨rfl, _⟩ | ⟨b, off, c, rfl, _, _, hb, _⟩
  · cases hg
  · injection hg with hg; subst hg; exact hb
theorem got_fin {p : Nat} {xs : List UInt8} {s5 : Ar} {k5 : Nat} {e5 : Int} (hle : p ≤ 21) (hr : RdTo (seqR (partsOf p) (Ar.zero p) (xs.drop 0)) xs.length 0 s5 k5 e5) :
    (mustE true e5 ((k5 : Int) == (xs.length : Int)) = 0 ∧ getA p xs = .ok s5) ∨ (mustE true e5 ((k5 : Int) == (xs.length : Int)) ≠ 0 ∧ getA p xs = .error (mustE true e5 ((k5 : Int) == (xs.length : Int)))) := by
  rw [beq_nat_int]
  rw [List.drop_zero] at hr
  have hn : ¬ 21 < p := by omega
  rcases hr with ⟨j, h1, rfl, h2, rfl⟩ | ⟨h1, h2⟩
  · rw [Nat.zero_add] at *
    by_cases hj : j = xs.length
    · refine .inl ⟨?_, ?_⟩
      · rw [hj, beq_self_eq_true]; rfl
      · rw [getA, if_neg hn, h1]; dsimp only; rw [if_pos hj]
    · have hb : (j == xs.length) = false := beq_eq_false_iff_ne.2 hj
      rw [hb]
      refine .inr ⟨by decide, ?_⟩
      rw [getA, if_neg hn, h1]; dsimp only; rw [if_neg hj]; rfl
  · rw [mustE_ne h2]
    refine .inr ⟨h2, ?_⟩
    rw [getA, if_neg hn, h1]
/-- A row of the map of parts, looked up. -/
theorem wpList_row {w : World} {ops : Array Oper} {rest : List Oper} {o : Oper} {a : Act} {Q : Exit → Act → World → Prop} {lo K M p : Nat} (hM : RowsMap w lo K M) (hp : p < 4294967296) (hg : o.guard = none) (m x : Operand) (hop : o.op = Op.lookup 64 m x true)
    (hm : a.eval m = .map (some M)) (hx : a.eval x = .int .u32 (p : Int))
    (hK : ∀ v, (p ≤ 21 → RowIs w lo K v (rowsOf p)) → wpList Tryz.prog ops Q rest (a.put o.dst (.tuple #[v, .bool (decide (p ≤ 21))])) w) : wpList Tryz.prog ops Q (o :: rest) a w := by
  obtain ⟨D, n, hown, h1, h2⟩ := hM
  refine wpList_lookup_own_ok w hg m x _ hop 23 62 procKeyed Tryz.underlying64 heldR (z := .slice none 0 0) (by kernel_rfl) (.held (.slice none 0 0)) [] rfl M n D hm hown (.int .u32 (p : Int)) (kP p) hx (keyP p hp) fun v ps hv => ?_
  rcases Nat.lt_or_ge 21 p with hlt | hle
  · rw [h2 p hlt hp]
    have := hK v (fun h => absurd hlt (Nat.not_lt_of_le h))
    rw [decide_eq_false (by omega)] at this
    exact this
  · obtain ⟨e1, u, e2, e3⟩ := h1 p hle
    rw [e1]
    have := hK v (fun _ => by
      rw [e2] at hv
      injection hv with hv
      injection hv with hv _
      injection hv with hv
      rw [hv]; exact e3)
    rw [decide_eq_true hle] at this
    exact this
/-- What args.Get hands back. -/
structure ArOut (base : Nat) (w : World) (a : Ar) (v1 v2 v3 : Value) : Prop where
  wf : ArWf a
  h1 : Rd w v1 a.h
  h2 : Rd w v2 a.h2
  h3 : Rd w v3 a.data
  n1 : ∀ g, Value.inBlock v1 = some g → base ≤ g
  n2 : ∀ g, Value.inBlock v2 = some g → base ≤ g
  n3 : ∀ g, Value.inBlock v3 = some g → base ≤ g
def arZ : List Value := arC nilS nilS nilS (Ar.zero 0)
def ArGot (p : Nat) (xs : List UInt8) (w : World) (e : Ending) (w' : World) : Prop :=
  Below w.heap.size w w' ∧ ((∃ a v1 v2 v3, getA p xs = .ok a ∧ ArOut w.heap.size w' a v1 v2 v3 ∧ e = .returned (.tuple #[.agg (arC v1 v2 v3 a).toArray, .int .i64 0])) ∨ ∃ er, getA p xs = .error er ∧ er ≠ 0 ∧ e = .returned (.tuple #[.agg arZ.toArray, .int .i64 er]))
set_option maxRecDepth 100000 in
set_option maxHeartbeats 4000000 in
theorem Get_any {p : Nat} (hp : p < 4294967296) {v : Value} {xs : List UInt8} {w : World} (hv : Rd w v xs) (hx : xs.length ≤ 1000000000) : Calls Tryz.prog 13 #[.int .u32 (p : Int), v] w (ArGot p xs w) := by
  obtain ⟨A, c, rfl, hc1, hc2, _, _⟩ := hv.bs
  have HV := Lib.hid hv
  have HX := Lib.hid hx
  obtain ⟨n, hn⟩ : ∃ n, xs.length = n := ⟨_, rfl⟩
  rw [hn] at HV hc1 hx ⊢
  have HN := Lib.hid hn
  clear hn hv hc1 hc2
  have hx9 : (n : Int) ≤ 1000000000 := by omega
  clear hx
  go_enter Tryz.func13, Tryz.ntmps13
  go_upto_region 1 with fail
  refine wp_world (fun wx => OwnL wx w.heap.size arZ ∧ Below w.heap.size w wx) ⟨OwnL.made w arZ 33, by (with_reducible (repeat' (first | exact Below.refl _ _ | assumption | apply bl_alloc | apply bl_drewN | apply bl_drew | refine bl_set ?_ ?_ _))) <;> (first | done | (simp; done) | (simp; omega) | omega)⟩ ?_
  rintro w1 ⟨oZ, hB1⟩
  go_upto_region 2 with (refine wpList_store_new rfl 33 _ _ rfl (arC nilS nilS nilS (Ar.zero p)) rfl rfl (by kernel_rfl) (by kernel_rfl) (arC_one rfl rfl rfl) ?_; intro w2 hb2 oK)
  generalize Value.agg _ = g11
  have hK0 : w.heap.size < w1.heap.size := oZ.1
  have hK2 : w1.heap.size < w2.heap.size := oK.1
  have oZ2 := oZ.trk hb2
  have HV2 := Lib.hid ((HV.out.below hB1).below hb2)
  have hB2 := bl_then hB1 hb2
  clear hB1 hb2 oZ
  go_upto_region 3 with (first
    | (go_at_call 23; (refine Calls.mono (rows_any (K := w1.heap.size)) ?_); rintro e w3 ⟨M, rfl, hb3, hM⟩; (have oZ3 := oZ2.trk hb3); (have oK3 := oK.trk hb3); (have HV3 := Lib.hid (HV2.out.below hb3)); (have hB3 := bl_then hB2 hb3); (have HM := Lib.hid hM); (have hs3 := hb3.size); clear hM hb3 hB2 oZ2 oK HV2)
    | (refine wpList_row HM.out hp rfl _ _ rfl rfl rfl ?_; intro rv hrv; (have HRow := Lib.hid hrv); clear hrv))
  rcases Nat.lt_or_ge 21 p with hlt | hle
  · have hd : decide (p ≤ 21) = false := decide_eq_false (by omega)
    rw [hd]
    clear HRow hd
    go_wp2_with (refine wpList_store_mid rfl 33 _ _ rfl w.heap.size 0 arZ.toArray rfl rfl oZ3.there (by kernel_rfl) (all_oneCell_toArray (arC_one rfl rfl rfl)) ?_)
    have oZ4 := oZ3.sets (vs := arZ) rfl
    refine bodyPost_ret (v := .tuple #[.agg arZ.toArray, .int .i64 1]) (results_cell2 Tryz.results13 rfl rfl oZ4 Tryz.underlying33 rfl (by kernel_rfl)) rfl ⟨bl_setCells hB3 (Nat.le_refl _), .inr ⟨1, by rw [getA, if_pos hlt], by decide, rfl⟩⟩
  have hd : decide (p ≤ 21) = true := decide_eq_true hle
  rw [hd]
  have HRow := Lib.hid (HRow.out hle)
  clear hd
  go_upto_region 6 with fail
  refine wp_world (fun wx => OwnL wx w3.heap.size (roadC (.slice A n c) 0 true 0) ∧ Below w3.heap.size w3 wx) ⟨OwnL.made w3 (roadC (.slice A n c) 0 true 0) 69, by (with_reducible (repeat' (first | exact Below.refl _ _ | assumption | apply bl_alloc | apply bl_drewN | apply bl_drew | refine bl_set ?_ ?_ _))) <;> (first | done | (simp; done) | (simp; omega) | omega)⟩ ?_
  rintro w4 ⟨oR, hB4⟩
  have oZ4 := oZ3.trk hB4
  have oK4 := oK3.trk hB4
  have hKR : w1.heap.size < w3.heap.size := Nat.lt_of_lt_of_le hK2 hs3
  have hZK : w.heap.size < w3.heap.size := Nat.lt_trans hK0 hKR
  have HV4 := Lib.hid (HV3.out.below hB4)
  have HRep := Lib.hid (show ArRep (w3.heap.size < ·) w1.heap.size w4 (Ar.zero p) from ⟨ArWf.zero hp, nilS, nilS, nilS, ⟨oK4, .inl ⟨rfl, rfl⟩, .inl ⟨rfl, rfl⟩, .inl ⟨rfl, rfl⟩, fun g hg => by (cases hg), fun g hg => by (cases hg), fun g hg => by (cases hg)⟩⟩)
  have HPre := Lib.hid (show RdPre (fun i => i = w3.heap.size ∨ i = w1.heap.size) w4 (.slice A n c) 0 0 xs from fun _ => ⟨HV4.out, fun g hg hP => by
    have hgl : g < w.heap.size := rd_block HV.out hg
    rcases hP with rfl | rfl <;> omega, Nat.zero_le _, HX.out⟩)
  obtain ⟨qs, hpl, hqs, hqk, hqn⟩ := HRow.out
  have HDo := Lib.hid (Do_any (Rep := ArRep (w3.heap.size < ·) w1.heap.size) (R := w3.heap.size) (P := fun i => i = w3.heap.size ∨ i = w1.heap.size) (w0 := w3) (w := w4) (ps := qs.map fun q => (q.1, pkRd q.2)) (v := rv) (bv := .slice A n c) (s := Ar.zero p) (k := 0) (e := 0) (xs := xs) (fun q hq => by
    obtain ⟨q0, hq0, rfl⟩ := List.mem_map.1 hq
    exact pk_rd hKR (hqk q0 hq0) fun i h1 h2 h => by rcases h with rfl | rfl <;> omega) (by rw [List.map_map]; exact hpl) (fun g hg h => by
      have := hqn g hg
      rcases h with rfl | rfl <;> omega) (Only.ne_ _ hB4) HRep.out oR HPre.out)
  rw [show (qs.map fun q => (q.1, pkRd q.2)).map (·.2) = (qs.map (·.2)).map pkRd from by rw [List.map_map, List.map_map]; rfl, hqs, row_rd p hle] at HDo
  clear HRow hpl hqs hqk hqn HPre HRep HM oK3 oK4 oZ3 HV3
  have HB4 := Lib.hid (bl_then hB3 hB4)
  have hs4 := hB4.size
  clear hB3 hB4
  go_upto_region 7 with (go_at_call 24; (refine Calls.mono HDo.out ?_); rintro e w5 ⟨rfl, o5, s5, k5, e5, oR5, hR5, hst⟩; (have HSt := Lib.hid hst); (have HR5 := Lib.hid hR5); (have Ho5 := Lib.hid o5); clear hst hR5 o5)
  have g1 : w5.cell? ⟨w3.heap.size, 1, none⟩ = some (.int .i64 k5) := oR5.2.1 1
  have HF := Lib.hid (got_fin hle (HSt.out.elim (fun h => absurd rfl h.1) (fun h => h.2)))
  rw [HN.out] at HF
  have hs5 := Ho5.out.size
  clear HSt oR HDo
  go_upto_region 8 with (go_at_call 26; (refine Calls.mono (Must_any ((k5 : Int) == (n : Int)) oR5) ?_); rintro e w6 ⟨rfl, oR6, o6⟩; (have Ho6 := Lib.hid o6); clear o6)
  have HR6 := Lib.hid (HR5.out.only Ho6.out (by omega) (fun g (h : w3.heap.size < g) => by omega))
  have hs6 := Ho6.out.size
  have hO : Only (fun i => i = w3.heap.size ∨ i = w1.heap.size) w4 w6 := Ho5.out.then_ Ho6.out fun i _ h => .inl h
  have oZ6 := oZ4.only hO (fun h => by rcases h with h | h <;> omega)
  have hB6 : Below w.heap.size w w6 := ⟨hO.os.trans HB4.out.os, hO.tape.trans HB4.out.tape, hO.output.trans HB4.out.output, Nat.le_trans HB4.out.size hO.size, fun i hi => (hO.block i (Nat.lt_of_lt_of_le hi HB4.out.size) (fun h => by rcases h with h | h <;> omega)).trans (HB4.out.block i hi)⟩
  obtain ⟨er, her⟩ : ∃ er, mustE true e5 ((k5 : Int) == (n : Int)) = er := ⟨_, rfl⟩
  rw [her] at HF oR6
  have g3 : w6.cell? ⟨w3.heap.size, 3, none⟩ = some (.int .i64 er) := oR6.2.1 3
  clear her oR5 HR5 Ho5 Ho6 g1 oZ4 hO HB4
  rcases HF.out with ⟨h0, hg⟩ | ⟨h0, hg⟩
  · subst h0
    have HG := Lib.hid hg
    clear HF hg
    obtain ⟨hwf, u1, u2, u3, hAt⟩ := HR6.out
    have hsz : (arC u1 u2 u3 s5).toArray.size = 40 := by rw [List.size_toArray, arC_len hwf.verf]
    go_wp2_with (first | (refine wpList_load_mid rfl 33 _ rfl w1.heap.size 0 rfl (arC u1 u2 u3 s5) _ hAt.own.range Tryz.underlying33 rfl (by rw [arC_len hwf.verf]; kernel_rfl) ?_) | (refine wpList_store_mid rfl 33 _ _ rfl w.heap.size 0 (arC u1 u2 u3 s5).toArray rfl rfl (by rw [hsz]; exact oZ6.there) (by rw [hsz]; kernel_rfl) (all_oneCell_toArray (arC_one hAt.h1.one hAt.h2.one hAt.h3.one)) ?_))
    have oZ7 := oZ6.sets (vs := arC u1 u2 u3 s5) (by rw [arC_len hwf.verf]; rfl)
    have hO7 : Only (· = w.heap.size) w6 (w6.setCells w.heap.size 0 (arC u1 u2 u3 s5)) := only_setCells
    refine bodyPost_ret (v := .tuple #[.agg (arC u1 u2 u3 s5).toArray, .int .i64 0]) (results_cell2 Tryz.results13 rfl rfl oZ7 Tryz.underlying33 rfl (by rw [arC_len hwf.verf]; kernel_rfl)) rfl ⟨bl_setCells hB6 (Nat.le_refl _), .inl ⟨s5, u1, u2, u3, HG.out, ?_, rfl⟩⟩
    have hlow : ∀ {u : Value}, (∀ g, Value.inBlock u = some g → w3.heap.size < g) → ∀ g, Value.inBlock u = some g → ¬ g = w.heap.size := fun h g hg e => by have := h g hg; omega
    have hlow2 : ∀ {u : Value}, (∀ g, Value.inBlock u = some g → w3.heap.size < g) → ∀ g, Value.inBlock u = some g → w.heap.size ≤ g := fun h g hg => by have := h g hg; omega
    exact ⟨hwf, hAt.h1.only hO7 (hlow hAt.in1), hAt.h2.only hO7 (hlow hAt.in2), hAt.h3.only hO7 (hlow hAt.in3), hlow2 hAt.in1, hlow2 hAt.in2, hlow2 hAt.in3⟩
  · have HG := Lib.hid hg
    have H0 := Lib.hid h0
    have hb0 : (er == 0) = false := beq_eq_false_iff_ne.2 h0
    clear HF hg h0 HR6
    go_upto_region 9 with fail
    refine wp_region_held_drew (S := fun wq => wq.there w.heap.size 0 40 ∧ wq.cell? ⟨w3.heap.size, 3, none⟩ = some (.int .i64 er)) rfl ⟨oZ6.drew.there, g3⟩ fun hS2 => ?_
    (refine wpAnyH_take (i := 0) (v := ?_) rfl (by kernel_rfl) (by kernel_rfl) (by kernel_rfl) (fun _ _ _ h => h) (Or.inl ⟨by rfl, ?_⟩) (by assumption) ?_; rotate_left; (intro wq hSw; (try dsimp only at hSw); go_simp; (try with_reducible rfl)); rotate_left; (try dsimp only [Act.put]); (try simp only [List.setIfInBounds_toArray, List.set_cons_zero, List.set_cons_succ]))
    (refine wpAnyH_take (i := 1) (v := ?_) rfl (by kernel_rfl) (by kernel_rfl) (by kernel_rfl) (fun _ _ _ h => h) (Or.inl ⟨by rfl, ?_⟩) (by assumption) ?_; rotate_left; (intro wq hSw; (try dsimp only at hSw); go_simp; (try with_reducible rfl)); rotate_left; (try dsimp only [Act.put]); (try simp only [List.setIfInBounds_toArray, List.set_cons_zero, List.set_cons_succ]))
    (refine wpAnyH_take (i := 2) (v := ?_) rfl (by kernel_rfl) (by kernel_rfl) (by kernel_rfl) (fun _ _ _ h => h) (Or.inl ⟨by rfl, ?_⟩) (by assumption) ?_; rotate_left; (intro wq hSw; (try dsimp only at hSw); go_simp; (try with_reducible rfl)); rotate_left; (try dsimp only [Act.put]); (try simp only [List.setIfInBounds_toArray, List.set_cons_zero, List.set_cons_succ]))
    (refine wpAnyH_take (i := 3) (v := ?_) rfl (by kernel_rfl) (by kernel_rfl) (by kernel_rfl) (fun _ _ _ h => h) (Or.inl ⟨by rfl, ?_⟩) (by assumption) ?_; rotate_left; (intro wq hSw; (try dsimp only at hSw); go_simp; (try with_reducible rfl)); rotate_left; (try dsimp only [Act.put]); (try simp only [List.setIfInBounds_toArray, List.set_cons_zero, List.set_cons_succ]))
    (refine wpAnyH_take (i := 4) (v := ?_) rfl (by kernel_rfl) (by kernel_rfl) (by kernel_rfl) (fun _ _ _ h => h) (Or.inl ⟨by rfl, ?_⟩) (by assumption) ?_; rotate_left; (intro wq hSw; (try dsimp only at hSw); go_simp; (try with_reducible rfl)); rotate_left; (try dsimp only [Act.put]); (try simp only [List.setIfInBounds_toArray, List.set_cons_zero, List.set_cons_succ]))
    refine wpAnyH_ready (rs := [5]) (by kernel_rfl) (by simp) ?_
    refine AllReadyH.cons rfl (fun K hK => ?_) AllReadyH.nil
    rw [if_pos (by rfl)]
    refine wp_store_mid _ _ _ rfl w.heap.size 0 arZ.toArray rfl rfl oZ6.drew.there (by kernel_rfl) (all_oneCell_toArray (arC_one rfl rfl rfl)) ?_
    have oZ7 := oZ6.drew.sets (vs := arZ) rfl
    have oR7 : OwnL (w6.drew.setCells w.heap.size 0 arZ) w3.heap.size _ := (oR6.drew).sets_other (b' := w.heap.size) (o' := 0) (vs := arZ) (by omega)
    refine hK.out _ _ ⟨oZ7.there, oR7.2.1 3⟩ fun hS4 => ?_
    (try dsimp only [Act.put]); (try simp only [List.setIfInBounds_toArray, List.set_cons_zero, List.set_cons_succ])
    (refine wpAnyH_take (i := 6) (v := ?_) rfl (by kernel_rfl) (by kernel_rfl) (by kernel_rfl) (fun _ _ _ h => h) (Or.inl ⟨by rfl, ?_⟩) (by assumption) ?_; rotate_left; (intro wq hSw; (try dsimp only at hSw); go_simp; (try with_reducible rfl)); rotate_left; (try dsimp only [Act.put]); (try simp only [List.setIfInBounds_toArray, List.set_cons_zero, List.set_cons_succ]))
    refine wpAnyH_done (by kernel_rfl) ?_ _
    have hB7 : Below w.heap.size w (w6.drew.setCells w.heap.size 0 arZ) := bl_setCells hB6.drew (Nat.le_refl _)
    go_wp2
    refine bodyPost_ret (v := .tuple #[.agg arZ.toArray, .int .i64 er]) (results_cell2 Tryz.results13 rfl rfl oZ7 Tryz.underlying33 rfl (by kernel_rfl)) rfl ⟨hB7, .inr ⟨er, HG.out, H0.out, rfl⟩⟩
end Go.Proofs.YtgmhapjidbdhnaaGreat

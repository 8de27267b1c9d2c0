/- Yes, and parts; or no. -/
import Derived.Test.YtgmhapjidbdhnaaGreatJI
import Derived.Test.YtgmhapjidbdhnaaGreatJK
import Derived.Test.YtgmhapjidbdhnaaGreatJL
import Derived.Test.YtgmhapjidbdhnaaGreatJM
import Derived.Test.YtgmhapjidbdhnaaGreatJN
import Derived.Test.YtgmhapjidbdhnaaGreatJO
import Derived.Deep.RegionHeld2
set_option linter.unusedVariables false
set_option linter.unusedSimpArgs false
namespace Go.Proofs.YtgmhapjidbdhnaaGreat
open Go.RowKit
/-- A field read. -/
def fld {σ α : Type} (p : Ps α) (set : α → σ → σ) : σ → Ps σ := fun s => Ps.bind p fun y => Ps.pure (set y s)
section
variable {σ : Type} {Rep : World → σ → Prop} {R : Nat} {P Q : Nat → Prop} {w0 : World} {lo T o : Nat} {fv : Value}
theorem Number_isRd {set : Nat → σ → σ} (hS : RepR Rep R P) (hF : FldS Rep R P T o eU32 set) (h : NumberShape w0 lo fv T o) (hlo : ∀ i, lo ≤ i → i < w0.heap.size → ¬ P i) : IsRd Rep R P w0 fv (fld pNum set) := by
  obtain ⟨gv, pv, h1, h2, h3⟩ := h
  obtain ⟨cap, e, hr⟩ := of32_rd hS hF h1 hlo (short32_get h2 hlo) (fun _ _ _ _ _ h _ => h) (fun _ _ _ _ h => ⟨_, h.1⟩)
  exact ⟨_, _, e, hr⟩
theorem Number_isWr {get : σ → Nat} (hW : RepW Rep R Q w0) (hF : FldG Rep R T o dU32 get) (h : NumberShape w0 lo fv T o) (hlo : ∀ i, lo ≤ i → i < w0.heap.size → ¬ Q i) : IsWr Rep R Q w0 fv (fun s => q4 (get s)) 4 := by
  obtain ⟨gv, pv, h1, h2, h3⟩ := h
  obtain ⟨cap, e, hr⟩ := of32_wr hW hF h1 hlo (short32_put h3 hlo) (fun _ _ _ h => ⟨_, h.1⟩)
  exact ⟨_, _, e, hr⟩
theorem Long_isRd {set : Nat → σ → σ} (hS : RepR Rep R P) (hF : FldS Rep R P T o eU64 set) (h : LongShape w0 lo fv T o) (hlo : ∀ i, lo ≤ i → i < w0.heap.size → ¬ P i) : IsRd Rep R P w0 fv (fld pLong set) := by
  obtain ⟨gv, pv, h1, h2, h3⟩ := h
  obtain ⟨cap, e, hr⟩ := of64_rd hS hF h1 hlo (short64_get h2 hlo) (fun _ _ _ _ _ h _ => h) (fun _ _ _ _ h => ⟨_, h.1⟩)
  exact ⟨_, _, e, hr⟩
theorem Long_isWr {get : σ → Nat} (hW : RepW Rep R Q w0) (hF : FldG Rep R T o dU64 get) (h : LongShape w0 lo fv T o) (hlo : ∀ i, lo ≤ i → i < w0.heap.size → ¬ Q i) : IsWr Rep R Q w0 fv (fun s => q8 (get s)) 8 := by
  obtain ⟨gv, pv, h1, h2, h3⟩ := h
  obtain ⟨cap, e, hr⟩ := of64_wr hW hF h1 hlo (short64_put h3 hlo) (fun _ _ _ h => ⟨_, h.1⟩)
  exact ⟨_, _, e, hr⟩
theorem Yes_isRd {set : Bool → σ → σ} (hS : RepR Rep R P) (hF : FldS Rep R P T o eBool set) (h : YesShape w0 lo fv T o) (hlo : ∀ i, lo ≤ i → i < w0.heap.size → ¬ P i) : IsRd Rep R P w0 fv (fld pYes set) := by
  obtain ⟨gv, pv, h1, h2, h3⟩ := h
  obtain ⟨cap, e, hr⟩ := ofY_rd hS hF h1 hlo (shortY_get h2 hlo) (fun _ _ _ _ _ h _ => h) (fun _ _ _ _ h => ⟨_, h⟩)
  exact ⟨_, _, e, hr⟩
theorem Yes_isWr {get : σ → Bool} (hW : RepW Rep R Q w0) (hF : FldG Rep R T o dBool get) (h : YesShape w0 lo fv T o) (hlo : ∀ i, lo ≤ i → i < w0.heap.size → ¬ Q i) : IsWr Rep R Q w0 fv (fun s => .ok (putYes (get s))) 4 := by
  obtain ⟨gv, pv, h1, h2, h3⟩ := h
  obtain ⟨cap, e, hr⟩ := ofY_wr hW hF h1 hlo (shortY_put h3 hlo) (fun _ _ _ h => ⟨_, h⟩)
  exact ⟨_, _, e, hr⟩
theorem Bytes_isRd {most : Nat} {set : List UInt8 → σ → σ} (hm : most ≤ 100000) (hS : RepR Rep R P) (hF : FldS Rep R P T o eByt set) (h : BytesShape most w0 lo fv T o) (hlo : ∀ i, lo ≤ i → i < w0.heap.size → ¬ P i) : IsRd Rep R P w0 fv (fld (pOpq most) set) := by
  obtain ⟨M, a1, a2, c, h1⟩ := h
  obtain ⟨cap, e, hr⟩ := ofB_rd hS hF h1 hlo (Bytes_get hm a1 a2 c hlo) (fun _ _ _ _ _ h ho => OwnB.only_lt h ho fun _ h => h) (fun _ _ _ _ h => OwnB.isSlice h)
  exact ⟨_, _, e, hr⟩
theorem Rd.isSlice {w : World} {v : Value} {xs : List UInt8} (h : Rd w v xs) : ∃ A n c, v = .slice A n c := by
  obtain ⟨A, c, e, _⟩ := h.bs
  exact ⟨A, _, c, e⟩
theorem Bytes_isWr {most : Nat} {get : σ → List UInt8} (hm : most ≤ 100000) (hW : RepW Rep R Q w0) (hF : FldG Rep R T o dByt get) (h : BytesShape most w0 lo fv T o) (hlo : ∀ i, lo ≤ i → i < w0.heap.size → ¬ Q i) : IsWr Rep R Q w0 fv (fun s => qOpq most (get s)) (most + 7) := by
  obtain ⟨M, a1, a2, c, h1⟩ := h
  obtain ⟨cap, e, hr⟩ := ofB_wr hW hF h1 hlo (Bytes_put hm a1 a2 c hlo) (fun _ _ _ h => Rd.isSlice h)
  exact ⟨_, _, e, hr⟩
theorem Text_isRd {most : Nat} {set : List UInt8 → σ → σ} (hm : most ≤ 100000) (hS : RepR Rep R P) (hF : FldS Rep R P T o eTxt set) (h : TextShape most w0 lo fv T o) (hlo : ∀ i, lo ≤ i → i < w0.heap.size → ¬ P i) : IsRd Rep R P w0 fv (fld (pOpq most) set) := by
  obtain ⟨M, a1, a2, c, h1⟩ := h
  obtain ⟨cap, e, hr⟩ := ofS_rd hS hF h1 hlo (Text_get hm a1 a2 c hlo) (fun _ _ _ _ _ h _ => h) (fun _ _ _ _ h => ⟨_, h⟩)
  exact ⟨_, _, e, hr⟩
theorem Text_isWr {most : Nat} {get : σ → List UInt8} (hm : most ≤ 100000) (hW : RepW Rep R Q w0) (hF : FldG Rep R T o dTxt get) (h : TextShape most w0 lo fv T o) (hlo : ∀ i, lo ≤ i → i < w0.heap.size → ¬ Q i) : IsWr Rep R Q w0 fv (fun s => qOpq most (get s)) (most + 7) := by
  obtain ⟨M, a1, a2, c, h1⟩ := h
  obtain ⟨cap, e, hr⟩ := ofS_wr hW hF h1 hlo (Text_put hm a1 a2 c hlo) (fun _ _ _ h => ⟨_, h⟩)
  exact ⟨_, _, e, hr⟩
theorem Set_isRd {set : St → σ → σ} (hS : RepR Rep R P) (hF : FldSM Rep R P T o 14 encSet St.wf set) (h : SetShape w0 lo fv T o) (hlo : ∀ i, lo ≤ i → i < w0.heap.size → ¬ P i) : IsRd Rep R P w0 fv (fld pSet set) := by
  obtain ⟨cap, e, hr⟩ := ofSet_rd hS hF h hlo (Set_get _)
  exact ⟨_, _, e, hr⟩
theorem Set_isWr {get : σ → St} (hW : RepW Rep R Q w0) (hF : FldGM Rep T o encSet St.wf get) (h : SetShape w0 lo fv T o) (hlo : ∀ i, lo ≤ i → i < w0.heap.size → ¬ Q i) : IsWr Rep R Q w0 fv (fun s => rSet (get s)) 60 := by
  obtain ⟨cap, e, hr⟩ := ofSet_wr hW hF h hlo (Set_put _) (fun s _ => encSet_len s)
  exact ⟨_, _, e, hr⟩
theorem Verf_isRd {set : List UInt8 → σ → σ} (hS : RepR Rep R P) (hF : FldSM Rep R P T o 8 encV (fun x => x.length = 8) set) (h : VerfShape w0 lo fv T o) (hlo : ∀ i, lo ≤ i → i < w0.heap.size → ¬ P i) : IsRd Rep R P w0 fv (fld pVerf set) := by
  obtain ⟨cap, e, hr⟩ := ofV_rd hS hF h hlo (Verf_get _)
  exact ⟨_, _, e, hr⟩
theorem Verf_isWr {get : σ → List UInt8} (hW : RepW Rep R Q w0) (hF : FldGM Rep T o encV (fun x => x.length = 8) get) (h : VerfShape w0 lo fv T o) (hlo : ∀ i, lo ≤ i → i < w0.heap.size → ¬ Q i) : IsWr Rep R Q w0 fv (fun s => qVerf (get s)) 8 := by
  obtain ⟨cap, e, hr⟩ := ofV_wr hW hF h hlo (Verf_put _) (fun y hy => by rw [encV_len, hy])
  exact ⟨_, _, e, hr⟩
theorem TimeIn_isRd {set : Tm → σ → σ} (hS : RepR Rep R P) (hF : FldSM Rep R P T o 2 encT Tm.wf set) (h : TimeIn w0 lo fv T o) (hlo : ∀ i, lo ≤ i → i < w0.heap.size → ¬ P i) : ∃ cap, fv = .func (.func 124) #[] cap ∧ RdPart Rep R P w0 124 cap (fld pTime set) := by
  obtain ⟨gv, pv, h1, h2, h3⟩ := h
  exact ofT_rd hS hF h1 hlo (shortT_get h2 hlo)
theorem TimeIn_isWr {get : σ → Tm} (hW : RepW Rep R Q w0) (hF : FldGM Rep T o encT Tm.wf get) (h : TimeIn w0 lo fv T o) (hlo : ∀ i, lo ≤ i → i < w0.heap.size → ¬ Q i) : ∃ cap, fv = .func (.func 124) #[] cap ∧ WrPart Rep R Q w0 124 cap (fun s => qTm (get s)) 8 := by
  obtain ⟨gv, pv, h1, h2, h3⟩ := h
  exact ofT_wr hW hF h1 hlo (shortT_put h3 hlo) (fun _ _ => rfl)
end
end Go.Proofs.YtgmhapjidbdhnaaGreat
namespace Go.Proofs.YtgmhapjidbdhnaaGreat
open Go.RowKit
section
variable {σ : Type} {Rep : World → σ → Prop} {R : Nat} {P U : Nat → Prop} {w0 : World} {lo T o : Nat} {fv : Value}
theorem func_inj {f g : Nat} {a b : Array Value} (h : (Value.func (.func f) #[] a) = .func (.func g) #[] b) : f = g ∧ a = b := by
  injection h with h1 h2 h3
  injection h1 with h1
  exact ⟨h1, h3⟩
set_option maxRecDepth 100000 in
set_option maxHeartbeats 4000000 in
theorem Time_isRd {set : Tm → σ → σ} (hS : RepR Rep R P) (hF : FldSM Rep R P T o 2 encT Tm.wf set) (h : TimeShape w0 lo fv T o) (hlo : ∀ i, lo ≤ i → i < w0.heap.size → ¬ P i) : IsRd Rep R P w0 fv (fld pTime set) := by
  obtain ⟨X, Q, qf, qc, rfl, bX, bQ, hin⟩ := h
  obtain ⟨cap, hfe, hr⟩ := TimeIn_isRd hS hF hin hlo
  obtain ⟨rfl, rfl⟩ := func_inj hfe
  clear hfe
  refine ⟨_, _, rfl, RdPart.of_any (fun args w => by kernel_rfl) fun w s v k e xs ho hRep hO hpre => ?_⟩
  have gQ := (bQ.later ho hlo).2.2
  have hQl := (bQ.later ho hlo).2.1
  have hQR : Q ≠ R := fun e => hlo _ bQ.1 bQ.2.1 (e ▸ hS.inR)
  have h2 : w.cell? ⟨R, 2, none⟩ = some (.bool true) := hO.2.1 2
  have hRl := hO.1
  have HM := Lib.hid (Must_any true hO)
  have HS := Lib.hid hS; have HRep := Lib.hid hRep; have HO := Lib.hid ho; have HPre := Lib.hid hpre; have HR := Lib.hid hr
  clear hin hF hS hr hpre hRep hO ho hlo bX bQ
  show Calls Tryz.prog 85 #[.pointer (some ⟨R, 0, none⟩), .pointer (some ⟨X, 0, none⟩), .pointer (some ⟨Q, 0, none⟩)] w _
  go_enter Tryz.func85, Tryz.ntmps85
  go_upto_region 1 with (go_at_call 26; (refine Calls.mono HM.out ?_); rintro en w1 ⟨rfl, oR, o1⟩; (rw [mustE_true] at oR); (have HoR := Lib.hid oR); (have Ho1 := Lib.hid (o1.mono (Q := P) fun i _ e => by rw [e]; exact HS.out.inR)); (have g2 : w1.cell? ⟨Q, 0, none⟩ = _ := (o1.cell (a := ⟨Q, 0, none⟩) hQl hQR).trans gQ); (have hQl1 := Nat.lt_of_lt_of_le hQl o1.size); (have HRep1 := Lib.hid (HS.out.frR _ _ _ HRep.out o1)); clear o1 oR)
  clear gQ h2 hQl
  go_wp2_with (go_at_call 124; (refine Calls.mono (HR.out.any (HO.out.trans Ho1.out) HRep1.out HoR.out (HPre.out.only Ho1.out)) ?_); rintro en w2 ⟨rfl, o2, hp2⟩; (have HP2 := Lib.hid hp2); (have Ho2 := Lib.hid o2); clear hp2 o2)
  go_end0
  exact ⟨rfl, Ho1.out.trans Ho2.out, HP2.out⟩
theorem ok_ite (t : Tm) (rd : Bool) (e : Int) : mustE rd e t.ok = if e = 0 then (if t.ok = true then 0 else if rd = true then 5 else 1) else e := rfl
set_option maxRecDepth 100000 in
set_option maxHeartbeats 4000000 in
theorem Time_isWr {get : σ → Tm} (hW : RepW Rep R U w0) (hF : FldGM Rep T o encT Tm.wf get) (h : TimeShape w0 lo fv T o) (hlo : ∀ i, lo ≤ i → i < w0.heap.size → ¬ U i) : IsWr Rep R U w0 fv (fun s => rTime (get s)) 8 := by
  obtain ⟨X, Q, qf, qc, rfl, bX, bQ, hin⟩ := h
  obtain ⟨cap, hfe, hr⟩ := TimeIn_isWr hW hF hin hlo
  obtain ⟨rfl, rfl⟩ := func_inj hfe
  clear hfe
  refine ⟨_, _, rfl, WrPart.of_any (fun args w => by kernel_rfl) (fun w s bs hRep hq => ?_) fun w s v e acc ho hRep hO hpre => ?_⟩
  · unfold rTime at hq
    split at hq
    · injection hq with hq; rw [← hq]; exact Nat.le_of_ble_eq_true rfl
    · cases hq
  have gX := (bX.later ho hlo).2.2
  have gQ := (bQ.later ho hlo).2.2
  have hXl := (bX.later ho hlo).2.1
  have hQl := (bQ.later ho hlo).2.1
  have hQR : Q ≠ R := fun e => hlo _ bQ.1 bQ.2.1 (e ▸ hW.inR)
  have h2 : w.cell? ⟨R, 2, none⟩ = some (.bool false) := hO.2.1 2
  have hRl := hO.1
  obtain ⟨hrng, hwf⟩ := hF.has w s hRep
  have t0 : w.cell? ⟨T, o, none⟩ = some (.int .u32 (get s).sec) := hrng 0 _ rfl
  have t1 : w.cell? ⟨T, o + 1, none⟩ = some (.int .u32 (get s).nano) := hrng 1 _ rfl
  have hTl : T < w.heap.size := hF.lt _ _ hRep
  have HOw := Lib.hid hO
  have HW := Lib.hid hW; have HRep := Lib.hid hRep; have HO := Lib.hid ho; have HPre := Lib.hid hpre; have HR := Lib.hid hr
  have HTm := Lib.hid (fun w => TCheck_t (get s) w)
  clear hin hF hW hr hpre hRep hO ho hlo bX bQ hrng hwf
  show Calls Tryz.prog 85 #[.pointer (some ⟨R, 0, none⟩), .pointer (some ⟨X, 0, none⟩), .pointer (some ⟨Q, 0, none⟩)] w _
  go_enter Tryz.func85, Tryz.ntmps85
  go_upto_region 1 with (first
    | (go_at_call 86; (refine Calls.mono (HTm.out _) ?_); rintro en w1 ⟨rfl, b1⟩; (have g1 : w1.cell? ⟨Q, 0, none⟩ = _ := ((bcell b1).1 _ 0 hQl).trans gQ); (have Hb1 := Lib.hid b1); (have hQl1 := Nat.lt_of_lt_of_le hQl b1.size); (have HM := Lib.hid (Must_any (get s).ok (HOw.out.trk b1))); clear b1)
    | (go_at_call 26; (refine Calls.mono HM.out ?_); rintro en w2 ⟨rfl, oR, o2⟩; (have HoR := Lib.hid oR); (have Ho2 := Lib.hid ((Only.ne_ (· = R) Hb1.out).trans o2)); (have HPre2 := Lib.hid ((HPre.out.below Hb1.out).one o2)); (have g2 : w2.cell? ⟨Q, 0, none⟩ = _ := (o2.cell (a := ⟨Q, 0, none⟩) hQl1 hQR).trans g1); (have hQl2 := Nat.lt_of_lt_of_le hQl1 o2.size); clear oR o2))
  clear gX gQ h2 hXl hQl t0 t1 hTl g1 HM hQl1
  have HPre3 : Hid (WrPre R U w0 8 w2 v acc (mustE false e (get s).ok)) := HPre2.out.of mustE_zero
  have HE : Hid (mustE false e (get s).ok = 0 → e = 0) := mustE_zero
  generalize hm : mustE false e (get s).ok = e1 at *
  have HM1 := Lib.hid hm
  clear hm
  go_wp2_with (go_at_call 124; (refine Calls.mono (HR.out.any (HO.out.trans (Ho2.out.mono fun i _ e => by rw [e]; exact HW.out.inR)) (HW.out.one HRep.out Ho2.out) HoR.out HPre3.out) ?_); rintro en w3 ⟨rfl, o3, hp3⟩; (have HP3 := Lib.hid hp3); (have Ho3 := Lib.hid o3); clear hp3 o3)
  go_end0
  obtain ⟨v', e', hO', hs⟩ := HP3.out
  refine ⟨rfl, (Ho2.out.mono fun i _ e => .inl e).then_ Ho3.out (fun i _ h => h.imp id fun h => ⟨HE.out h.1, h.2⟩), v', e', hO', ?_⟩
  have hm := HM1.out
  by_cases he : e = 0
  · subst he
    refine .inr ⟨rfl, ?_⟩
    by_cases hok : (get s).ok = true
    · rw [mustE, if_pos rfl, if_pos hok] at hm
      subst hm
      rcases hs with ⟨h, _⟩ | ⟨_, ⟨rfl, bs, hq, hA, h2⟩ | ⟨hne, er, hq⟩⟩
      · exact absurd rfl h
      · refine .inl ⟨rfl, bs, ?_, hA, h2.earlier Ho2.out.size⟩
        rw [← hq, rTime, if_pos hok]; rfl
      · cases hq
    · rw [mustE, if_pos rfl, if_neg hok] at hm
      subst hm
      rcases hs with ⟨_, rfl, _⟩ | ⟨h, _⟩
      · exact .inr ⟨by decide, 1, by rw [rTime, if_neg hok]⟩
      · cases h
  · rw [mustE_ne he] at hm
    subst hm
    rcases hs with ⟨_, rfl, rfl⟩ | ⟨h, _⟩
    · exact .inl ⟨he, rfl, rfl⟩
    · exact absurd h he
end
end Go.Proofs.YtgmhapjidbdhnaaGreat
namespace Go.Proofs.YtgmhapjidbdhnaaGreat
open Go.RowKit
section
variable {σ : Type} {Rep : World → σ → Prop} {R : Nat} {P U : Nat → Prop} {w0 : World} {lo T o most : Nat} {fv : Value}
/-- A number is read, and held against the most. -/
theorem small_step {set : Nat → σ → σ} {get : σ → Nat} (hgs : ∀ y s, get (set y s) = y) {s s1 : σ} {xs : List UInt8} {k k1 : Nat} {e e1 : Int}
    (h1 : (e ≠ 0 ∧ e1 = e ∧ k1 = k) ∨ (e = 0 ∧ RdTo (fld pNum set s (xs.drop k)) xs.length k s1 k1 e1)) :
    (e ≠ 0 ∧ mustE true e1 (decide (get s1 ≤ most)) = e ∧ k1 = k) ∨ (e = 0 ∧ RdTo (fld (pSmall most) set s (xs.drop k)) xs.length k s1 k1 (mustE true e1 (decide (get s1 ≤ most)))) := by
  rcases h1 with ⟨hne, rfl, rfl⟩ | ⟨rfl, hr⟩
  · exact .inl ⟨hne, mustE_ne hne, rfl⟩
  · refine .inr ⟨rfl, ?_⟩
    rcases hr with ⟨j, hp, rfl, hl, rfl⟩ | ⟨hp, hne⟩
    · unfold fld at hp
      rcases hq : pNum (xs.drop k) with er | ⟨y, i⟩
      · rw [Ps.bind_error hq] at hp; cases hp
      · rw [Ps.bind_ok_ok hq (x := set y s) (m := 0) rfl] at hp
        injection hp with hp
        injection hp with e1 e2
        subst e1; subst e2
        rw [hgs]
        by_cases hy : y ≤ most
        · refine .inl ⟨i + 0, ?_, rfl, hl, ?_⟩
          · have hs : pSmall most (xs.drop k) = .ok (y, i + (0 + 0)) := by
              unfold pSmall
              rw [Ps.bind_ok_ok hq (x := y) (m := 0 + 0)]
              rw [Ps.bind_ok_ok (a := ()) (k := 0) (x := y) (m := 0) (h' := rfl)]
              · rw [Ps.need, if_pos (decide_eq_true hy)]
            rw [fld, Ps.bind_ok_ok hs (x := set y s) (m := 0) rfl]
          · rw [mustE, if_pos rfl, if_pos (decide_eq_true (by omega))]
        · refine .inr ⟨?_, ?_⟩
          · have e5 : mustE true 0 (decide (y ≤ most)) = 5 := by
              rw [mustE, if_pos rfl, if_neg (by rw [decide_eq_true_eq]; omega), if_pos rfl]
            rw [e5]
            have hs : pSmall most (xs.drop k) = .error 5 := by
              unfold pSmall
              rw [Ps.bind_ok_error hq]
              rw [Ps.bind_error]
              rw [Ps.need, if_neg (by rw [decide_eq_true_eq]; exact hy)]
            rw [fld, Ps.bind_error hs]
          · rw [mustE, if_pos rfl, if_neg (by rw [decide_eq_true_eq]; omega), if_pos rfl]; decide
    · refine .inr ⟨?_, by rw [mustE_ne hne]; exact hne⟩
      rw [mustE_ne hne]
      unfold fld at hp ⊢
      rcases hq : pNum (xs.drop k) with er | ⟨y, i⟩
      · rw [Ps.bind_error hq] at hp
        rw [Ps.bind_error (e := er)]
        · exact hp
        · unfold pSmall; rw [Ps.bind_error hq]
      · rw [Ps.bind_ok_ok hq (x := set y s) (m := 0) rfl] at hp; cases hp
set_option maxRecDepth 100000 in
set_option maxHeartbeats 4000000 in
theorem Small_isRd {set : Nat → σ → σ} {get : σ → Nat} (hgs : ∀ y s, get (set y s) = y) (hS : RepR Rep R P) (hF : FldS Rep R P T o eU32 set) (hG : FldG Rep R T o dU32 get) (h : SmallShape most w0 lo fv T o) (hlo : ∀ i, lo ≤ i → i < w0.heap.size → ¬ P i) : IsRd Rep R P w0 fv (fld (pSmall most) set) := by
  obtain ⟨X, M, Q, qf, qc, rfl, bX, bM, bQ, hin⟩ := h
  obtain ⟨_, _, hfe, hr⟩ := Number_isRd hS hF hin hlo
  have hfe2 := hin
  obtain ⟨gv, pv, hsh, _, _⟩ := hin
  obtain ⟨X', G', Pb', hb, _⟩ := hsh.box
  obtain ⟨rfl, rfl⟩ := func_inj hb
  obtain ⟨rfl, rfl⟩ := func_inj hfe
  clear hb hfe hsh hfe2
  refine ⟨_, _, rfl, RdPart.of_any (fun args w => by kernel_rfl) fun w s v k e xs ho hRep hO hpre => ?_⟩
  have bX1 := bX.later ho hlo; have bM1 := bM.later ho hlo; have bQ1 := bQ.later ho hlo
  have hQR : Q ≠ R := fun e => hlo _ bQ.1 bQ.2.1 (e ▸ hS.inR)
  have hXP : ¬ P X := hlo _ bX.1 bX.2.1
  have hMP : ¬ P M := hlo _ bM.1 bM.2.1
  have gQ := bQ1.2.2
  have hQl := bQ1.2.1
  have h2 : w.cell? ⟨R, 2, none⟩ = some (.bool true) := hO.2.1 2
  have hRl := hO.1
  have HM := Lib.hid (fun (wx : World) (hb : Below w.heap.size w wx) => Must_any true (hO.trk hb))
  have HBX := Lib.hid bX1; have HBM := Lib.hid bM1
  have HS := Lib.hid hS; have HRep := Lib.hid hRep; have HO := Lib.hid ho; have HPre := Lib.hid hpre; have HR := Lib.hid hr; have HF := Lib.hid hF; have HG := Lib.hid hG; have HGs := Lib.hid hgs
  clear hF hG hS hr hpre hRep hO ho hlo bX bM bQ bX1 bM1 bQ1 hgs
  show Calls Tryz.prog 87 #[.pointer (some ⟨R, 0, none⟩), .pointer (some ⟨X, 0, none⟩), .pointer (some ⟨M, 0, none⟩), .pointer (some ⟨Q, 0, none⟩)] w _
  go_enter Tryz.func87, Tryz.ntmps87
  go_upto_region 0 with fail
  refine wp_region_held_drew (S := fun wq => wq.cell? ⟨R, 2, none⟩ = some (.bool true)) rfl h2 fun hS0 => ?_
  (refine wpAnyH_take (i := 0) (v := ?_) rfl (by kernel_rfl) (by kernel_rfl) (by kernel_rfl) (fun _ _ _ h => h) (Or.inl ⟨by rfl, ?_⟩) (by assumption) ?_; rotate_left; (intro wq hSw; (try dsimp only at hSw); go_simp; (try with_reducible rfl)); rotate_left; (try dsimp only [Act.put]); (try simp only [List.setIfInBounds_toArray, List.set_cons_zero, List.set_cons_succ]))
  (refine wpAnyH_take (i := 1) (v := ?_) rfl (by kernel_rfl) (by kernel_rfl) (by kernel_rfl) (fun _ _ _ h => h) (Or.inl ⟨by rfl, ?_⟩) (by assumption) ?_; rotate_left; (intro wq hSw; (try dsimp only at hSw); go_simp; (try with_reducible rfl)); rotate_left; (try dsimp only [Act.put]); (try simp only [List.setIfInBounds_toArray, List.set_cons_zero, List.set_cons_succ]))
  (refine wpAnyH_take (i := 2) (v := ?_) rfl (by kernel_rfl) (by kernel_rfl) (by kernel_rfl) (fun _ _ _ h => h) (Or.inl ⟨by rfl, ?_⟩) (by assumption) ?_; rotate_left; (intro wq hSw; (try dsimp only at hSw); go_simp; (try with_reducible rfl)); rotate_left; (try dsimp only [Act.put]); (try simp only [List.setIfInBounds_toArray, List.set_cons_zero, List.set_cons_succ]))
  (refine wpAnyH_take (i := 3) (v := ?_) rfl (by kernel_rfl) (by kernel_rfl) (by kernel_rfl) (fun _ _ _ h => h) (Or.inl ⟨by rfl, ?_⟩) (by assumption) ?_; rotate_left; (intro wq hSw; (try dsimp only at hSw); go_simp; (try with_reducible rfl)); rotate_left; (try dsimp only [Act.put]); (try simp only [List.setIfInBounds_toArray, List.set_cons_zero, List.set_cons_succ]))
  (refine wpAnyH_take (i := 4) (v := ?_) rfl (by kernel_rfl) (by kernel_rfl) (by kernel_rfl) (fun _ _ _ h => h) (Or.inl ⟨by rfl, ?_⟩) (by assumption) ?_; rotate_left; (intro wq hSw; (try dsimp only at hSw); go_simp; (try with_reducible rfl)); rotate_left; (try dsimp only [Act.put]); (try simp only [List.setIfInBounds_toArray, List.set_cons_zero, List.set_cons_succ]))
  (refine wpAnyH_take (i := 5) (v := ?_) rfl (by kernel_rfl) (by kernel_rfl) (by kernel_rfl) (fun _ _ _ h => h) (Or.inl ⟨by rfl, ?_⟩) (by assumption) ?_; rotate_left; (intro wq hSw; (try dsimp only at hSw); go_simp; (try with_reducible rfl)); rotate_left; (try dsimp only [Act.put]); (try simp only [List.setIfInBounds_toArray, List.set_cons_zero, List.set_cons_succ]))
  refine wpAnyH_take (i := 6) (v := undef) rfl (by kernel_rfl) (by kernel_rfl) (by kernel_rfl) (fun _ _ _ h => h) (Or.inr ⟨by kernel_rfl, rfl⟩) (by assumption) ?_; (try dsimp only [Act.put]); (try simp only [List.setIfInBounds_toArray, List.set_cons_zero, List.set_cons_succ])
  refine wpAnyH_take (i := 7) (v := undef) rfl (by kernel_rfl) (by kernel_rfl) (by kernel_rfl) (fun _ _ _ h => h) (Or.inr ⟨by kernel_rfl, rfl⟩) (by assumption) ?_; (try dsimp only [Act.put]); (try simp only [List.setIfInBounds_toArray, List.set_cons_zero, List.set_cons_succ])
  refine wpAnyH_take (i := 8) (v := undef) rfl (by kernel_rfl) (by kernel_rfl) (by kernel_rfl) (fun _ _ _ h => h) (Or.inr ⟨by kernel_rfl, rfl⟩) (by assumption) ?_; (try dsimp only [Act.put]); (try simp only [List.setIfInBounds_toArray, List.set_cons_zero, List.set_cons_succ])
  refine wpAnyH_take (i := 9) (v := undef) rfl (by kernel_rfl) (by kernel_rfl) (by kernel_rfl) (fun _ _ _ h => h) (Or.inr ⟨by kernel_rfl, rfl⟩) (by assumption) ?_; (try dsimp only [Act.put]); (try simp only [List.setIfInBounds_toArray, List.set_cons_zero, List.set_cons_succ])
  refine wpAnyH_take (i := 10) (v := undef) rfl (by kernel_rfl) (by kernel_rfl) (by kernel_rfl) (fun _ _ _ h => h) (Or.inr ⟨by kernel_rfl, rfl⟩) (by assumption) ?_; (try dsimp only [Act.put]); (try simp only [List.setIfInBounds_toArray, List.set_cons_zero, List.set_cons_succ])
  (refine wpAnyH_take (i := 11) (v := ?_) rfl (by kernel_rfl) (by kernel_rfl) (by kernel_rfl) (fun _ _ _ h => h) (Or.inl ⟨by rfl, ?_⟩) (by assumption) ?_; rotate_left; (intro wq hSw; (try dsimp only at hSw); go_simp; (try with_reducible rfl)); rotate_left; (try dsimp only [Act.put]); (try simp only [List.setIfInBounds_toArray, List.set_cons_zero, List.set_cons_succ]))
  refine wpAnyH_ready (rs := [12]) (by kernel_rfl) (by simp) ?_
  refine AllReadyH.cons rfl (fun K hK => ?_) AllReadyH.nil
  rw [if_pos (by rfl)]
  go_simp
  go_at_call 26; (refine Calls.mono (HM.out _ (by (with_reducible (repeat' (first | exact Below.refl _ _ | assumption | apply bl_alloc | apply bl_drewN | apply bl_drew | refine bl_set ?_ ?_ _))) <;> (first | done | (simp; done) | (simp; omega) | omega))) ?_); rintro en w1 ⟨rfl, oR, o1⟩; (rw [mustE_true] at oR)
  have o1 : Only (· = R) w w1 := (Only.ne_ _ (show Below w.heap.size w w.drew by (with_reducible (repeat' (first | exact Below.refl _ _ | assumption | apply bl_alloc | apply bl_drewN | apply bl_drew | refine bl_set ?_ ?_ _))) <;> (first | done | (simp; done) | (simp; omega) | omega))).trans o1
  go_wp2_with fail
  refine hK.out _ _ (oR.2.1 2) fun hS1 => ?_
  (try dsimp only [Act.put]); (try simp only [List.setIfInBounds_toArray, List.set_cons_zero, List.set_cons_succ])
  refine wpAnyH_done (by kernel_rfl) ?_ _
  have HoR := Lib.hid oR
  have Ho1 := Lib.hid (o1.mono (Q := P) fun i _ e => by rw [e]; exact HS.out.inR)
  have g2 : w1.cell? ⟨Q, 0, none⟩ = _ := (o1.cell (a := ⟨Q, 0, none⟩) hQl hQR).trans gQ
  have hQl1 := Nat.lt_of_lt_of_le hQl o1.size
  have HRep1 := Lib.hid (HS.out.frR _ _ _ HRep.out o1)
  clear oR o1 hS0 hS1 gQ h2 hQl
  go_upto_region 2 with (go_at_call 120; (refine Calls.mono (HR.out.any (HO.out.trans Ho1.out) HRep1.out HoR.out (HPre.out.only Ho1.out)) ?_); rintro en w2 ⟨rfl, o2, s1, k1, e1, oR2, hRep2, hst⟩; (have HSt := Lib.hid hst); (have HoR2 := Lib.hid oR2); (have HRep2 := Lib.hid hRep2); (have Ho2 := Lib.hid (Ho1.out.trans o2)); clear hst oR2 hRep2 o2)
  have x2 : w2.cell? ⟨X, 0, none⟩ = some (.pointer (some ⟨T, o, none⟩)) := (Ho2.out.cell (a := ⟨X, 0, none⟩) HBX.out.2.1 hXP).trans HBX.out.2.2
  have m2 : w2.cell? ⟨M, 0, none⟩ = some (.int .u32 most) := (Ho2.out.cell (a := ⟨M, 0, none⟩) HBM.out.2.1 hMP).trans HBM.out.2.2
  obtain ⟨u, t2, rfl, hlt⟩ := HG.out.has _ _ HRep2.out
  have HLt := Lib.hid hlt
  have xl2 : X < w2.heap.size := Nat.lt_of_lt_of_le HBX.out.2.1 Ho2.out.size
  have ml2 : M < w2.heap.size := Nat.lt_of_lt_of_le HBM.out.2.1 Ho2.out.size
  have tl2 : T < w2.heap.size := (HF.out.has _ _ HRep2.out).1
  have HM2 := Lib.hid (fun (wx : World) (b : Bool) (hb : Below w2.heap.size w2 wx) => Must_any b (HoR2.out.trk hb))
  have hXR : X ≠ R := fun e => hXP (e ▸ HS.out.inR)
  have hMR : M ≠ R := fun e => hMP (e ▸ HS.out.inR)
  have hTR := HF.out.ne
  clear g2 hQl1 hlt
  go_region_held3 (fun wx => wx.cell? ⟨X, 0, none⟩ = some (.pointer (some ⟨T, o, none⟩)) ∧ wx.cell? ⟨M, 0, none⟩ = some (.int .u32 most) ∧ wx.cell? ⟨T, o, none⟩ = some (.int .u32 (get s1 : Nat))) (first | exact ⟨y0, y1, y2⟩ | (go_keep)) ((go_at_call 26; (refine Calls.mono (HM2.out _ _ (by (with_reducible (repeat' (first | exact Below.refl _ _ | assumption | apply bl_alloc | apply bl_drewN | apply bl_drew | refine bl_set ?_ ?_ _))) <;> (first | done | (simp; done) | (simp; omega) | omega))) ?_); rintro en w3 ⟨rfl, oR3, o3⟩; (have o3 : Only (· = R) w2 w3 := (Only.ne_ _ (show Below w2.heap.size w2 w2.drew by (with_reducible (repeat' (first | exact Below.refl _ _ | assumption | apply bl_alloc | apply bl_drewN | apply bl_drew | refine bl_set ?_ ?_ _))) <;> (first | done | (simp; done) | (simp; omega) | omega))).trans o3); (have y0 : w3.cell? ⟨X, 0, none⟩ = _ := (o3.cell (a := ⟨X, 0, none⟩) xl2 hXR).trans x2); (have y1 : w3.cell? ⟨M, 0, none⟩ = _ := (o3.cell (a := ⟨M, 0, none⟩) ml2 hMR).trans m2); (have y2 : w3.cell? ⟨T, o, none⟩ = _ := (o3.cell (a := ⟨T, o, none⟩) tl2 hTR).trans t2); (have HoR3 := Lib.hid oR3); (have Ho3 := Lib.hid o3); clear oR3 o3))
  go_wp2
  go_end0
  refine ⟨rfl, Ho2.out.trans (Ho3.out.mono fun i _ e => by rw [e]; exact HS.out.inR), s1, k1, _, HoR3.out, HS.out.frR _ _ _ HRep2.out Ho3.out, ?_⟩
  exact small_step HGs.out HSt.out
set_option maxRecDepth 100000 in
set_option maxHeartbeats 4000000 in
theorem Small_isWr {get : σ → Nat} (hW : RepW Rep R U w0) (hG : FldG Rep R T o dU32 get) (h : SmallShape most w0 lo fv T o) (hlo : ∀ i, lo ≤ i → i < w0.heap.size → ¬ U i) (hTR : T ≠ R) : IsWr Rep R U w0 fv (fun s => qSmall most (get s)) 4 := by
  obtain ⟨X, M, Q, qf, qc, rfl, bX, bM, bQ, hin⟩ := h
  obtain ⟨_, _, hfe, hr⟩ := Number_isWr hW hG hin hlo
  obtain ⟨gv, pv, hsh, _, _⟩ := hin
  obtain ⟨X', G', Pb', hb, _⟩ := hsh.box
  obtain ⟨rfl, rfl⟩ := func_inj hb
  obtain ⟨rfl, rfl⟩ := func_inj hfe
  clear hb hfe hsh
  refine ⟨_, _, rfl, WrPart.of_any (fun args w => by kernel_rfl) (fun w s bs hRep hq => ?_) fun w s v e acc ho hRep hO hpre => ?_⟩
  · unfold qSmall at hq
    split at hq
    · injection hq with hq; rw [← hq]; exact Nat.le_of_ble_eq_true rfl
    · cases hq
  have bX1 := bX.later ho hlo; have bM1 := bM.later ho hlo; have bQ1 := bQ.later ho hlo
  have hQR : Q ≠ R := fun e => hlo _ bQ.1 bQ.2.1 (e ▸ hW.inR)
  have hXR : X ≠ R := fun e => hlo _ bX.1 bX.2.1 (e ▸ hW.inR)
  have hMR : M ≠ R := fun e => hlo _ bM.1 bM.2.1 (e ▸ hW.inR)
  have hXP := hlo _ bX.1 bX.2.1
  have HBX0 := Lib.hid bX.2.1; have HBM0 := Lib.hid bM.2.1
  have hMP := hlo _ bM.1 bM.2.1
  have gX := bX1.2.2; have gM := bM1.2.2; have gQ := bQ1.2.2
  have hXl := bX1.2.1; have hMl := bM1.2.1; have hQl := bQ1.2.1
  have h2 : w.cell? ⟨R, 2, none⟩ = some (.bool false) := hO.2.1 2
  have hRl := hO.1
  have HOl := Lib.hid hO.1
  obtain ⟨u, t0, rfl, hlt⟩ := hG.has _ _ hRep
  have hTl : T < w.heap.size := hG.lt _ _ hRep
  have HM := Lib.hid (fun (wx : World) (b : Bool) (hb : Below w.heap.size w wx) => Must_any b (hO.trk hb))
  have HW := Lib.hid hW; have HRep := Lib.hid hRep; have HO := Lib.hid ho; have HPre := Lib.hid hpre; have HR := Lib.hid hr; have HG := Lib.hid hG
  have HXP := Lib.hid hXP; have HMP := Lib.hid hMP
  clear hG hW hr hpre hRep hO ho hlo bX bM bQ bX1 bM1 bQ1 hXP hMP hlt
  show Calls Tryz.prog 87 #[.pointer (some ⟨R, 0, none⟩), .pointer (some ⟨X, 0, none⟩), .pointer (some ⟨M, 0, none⟩), .pointer (some ⟨Q, 0, none⟩)] w _
  go_enter Tryz.func87, Tryz.ntmps87
  go_upto_region 0 with fail
  refine wp_region_held_drew (S := fun wq => wq.cell? ⟨R, 2, none⟩ = some (.bool false) ∧ wq.cell? ⟨X, 0, none⟩ = some (.pointer (some ⟨T, o, none⟩)) ∧ wq.cell? ⟨M, 0, none⟩ = some (.int .u32 most) ∧ wq.cell? ⟨T, o, none⟩ = some (.int .u32 (get s : Nat))) rfl ⟨h2, gX, gM, t0⟩ fun hS0 => ?_
  (refine wpAnyH_take (i := 0) (v := ?_) rfl (by kernel_rfl) (by kernel_rfl) (by kernel_rfl) (fun _ _ _ h => h) (Or.inl ⟨by rfl, ?_⟩) (by assumption) ?_; rotate_left; (intro wq hSw; (try dsimp only at hSw); go_simp; (try with_reducible rfl)); rotate_left; (try dsimp only [Act.put]); (try simp only [List.setIfInBounds_toArray, List.set_cons_zero, List.set_cons_succ]))
  (refine wpAnyH_take (i := 1) (v := ?_) rfl (by kernel_rfl) (by kernel_rfl) (by kernel_rfl) (fun _ _ _ h => h) (Or.inl ⟨by rfl, ?_⟩) (by assumption) ?_; rotate_left; (intro wq hSw; (try dsimp only at hSw); go_simp; (try with_reducible rfl)); rotate_left; (try dsimp only [Act.put]); (try simp only [List.setIfInBounds_toArray, List.set_cons_zero, List.set_cons_succ]))
  (refine wpAnyH_take (i := 2) (v := ?_) rfl (by kernel_rfl) (by kernel_rfl) (by kernel_rfl) (fun _ _ _ h => h) (Or.inl ⟨by rfl, ?_⟩) (by assumption) ?_; rotate_left; (intro wq hSw; (try dsimp only at hSw); go_simp; (try with_reducible rfl)); rotate_left; (try dsimp only [Act.put]); (try simp only [List.setIfInBounds_toArray, List.set_cons_zero, List.set_cons_succ]))
  (refine wpAnyH_take (i := 3) (v := ?_) rfl (by kernel_rfl) (by kernel_rfl) (by kernel_rfl) (fun _ _ _ h => h) (Or.inl ⟨by rfl, ?_⟩) (by assumption) ?_; rotate_left; (intro wq hSw; (try dsimp only at hSw); go_simp; (try with_reducible rfl)); rotate_left; (try dsimp only [Act.put]); (try simp only [List.setIfInBounds_toArray, List.set_cons_zero, List.set_cons_succ]))
  (refine wpAnyH_take (i := 4) (v := ?_) rfl (by kernel_rfl) (by kernel_rfl) (by kernel_rfl) (fun _ _ _ h => h) (Or.inl ⟨by rfl, ?_⟩) (by assumption) ?_; rotate_left; (intro wq hSw; (try dsimp only at hSw); go_simp; (try with_reducible rfl)); rotate_left; (try dsimp only [Act.put]); (try simp only [List.setIfInBounds_toArray, List.set_cons_zero, List.set_cons_succ]))
  (refine wpAnyH_take (i := 5) (v := ?_) rfl (by kernel_rfl) (by kernel_rfl) (by kernel_rfl) (fun _ _ _ h => h) (Or.inl ⟨by rfl, ?_⟩) (by assumption) ?_; rotate_left; (intro wq hSw; (try dsimp only at hSw); go_simp; (try with_reducible rfl)); rotate_left; (try dsimp only [Act.put]); (try simp only [List.setIfInBounds_toArray, List.set_cons_zero, List.set_cons_succ]))
  (refine wpAnyH_take (i := 6) (v := ?_) rfl (by kernel_rfl) (by kernel_rfl) (by kernel_rfl) (fun _ _ _ h => h) (Or.inl ⟨by kernel_rfl, ?_⟩) (by assumption) ?_; rotate_left; (intro wq hSw; (try dsimp only at hSw); go_simp; (try with_reducible rfl)); rotate_left; (try dsimp only [Act.put]); (try simp only [List.setIfInBounds_toArray, List.set_cons_zero, List.set_cons_succ]))
  (refine wpAnyH_take (i := 7) (v := ?_) rfl (by kernel_rfl) (by kernel_rfl) (by kernel_rfl) (fun _ _ _ h => h) (Or.inl ⟨by kernel_rfl, ?_⟩) (by assumption) ?_; rotate_left; (intro wq hSw; (try dsimp only at hSw); go_simp; (try with_reducible rfl)); rotate_left; (try dsimp only [Act.put]); (try simp only [List.setIfInBounds_toArray, List.set_cons_zero, List.set_cons_succ]))
  (refine wpAnyH_take (i := 8) (v := ?_) rfl (by kernel_rfl) (by kernel_rfl) (by kernel_rfl) (fun _ _ _ h => h) (Or.inl ⟨by kernel_rfl, ?_⟩) (by assumption) ?_; rotate_left; (intro wq hSw; (try dsimp only at hSw); go_simp; (try with_reducible rfl)); rotate_left; (try dsimp only [Act.put]); (try simp only [List.setIfInBounds_toArray, List.set_cons_zero, List.set_cons_succ]))
  (refine wpAnyH_take (i := 9) (v := ?_) rfl (by kernel_rfl) (by kernel_rfl) (by kernel_rfl) (fun _ _ _ h => h) (Or.inl ⟨by kernel_rfl, ?_⟩) (by assumption) ?_; rotate_left; (intro wq hSw; (try dsimp only at hSw); go_simp; (try with_reducible rfl)); rotate_left; (try dsimp only [Act.put]); (try simp only [List.setIfInBounds_toArray, List.set_cons_zero, List.set_cons_succ]))
  (refine wpAnyH_take (i := 10) (v := ?_) rfl (by kernel_rfl) (by kernel_rfl) (by kernel_rfl) (fun _ _ _ h => h) (Or.inl ⟨by kernel_rfl, ?_⟩) (by assumption) ?_; rotate_left; (intro wq hSw; (try dsimp only at hSw); go_simp; (try with_reducible rfl)); rotate_left; (try dsimp only [Act.put]); (try simp only [List.setIfInBounds_toArray, List.set_cons_zero, List.set_cons_succ]))
  (refine wpAnyH_take (i := 11) (v := ?_) rfl (by kernel_rfl) (by kernel_rfl) (by kernel_rfl) (fun _ _ _ h => h) (Or.inl ⟨by rfl, ?_⟩) (by assumption) ?_; rotate_left; (intro wq hSw; (try dsimp only at hSw); go_simp; (try with_reducible rfl)); rotate_left; (try dsimp only [Act.put]); (try simp only [List.setIfInBounds_toArray, List.set_cons_zero, List.set_cons_succ]))
  refine wpAnyH_ready (rs := [12]) (by kernel_rfl) (by simp) ?_
  refine AllReadyH.cons rfl (fun K hK => ?_) AllReadyH.nil
  rw [if_pos (by rfl)]
  go_simp
  go_at_call 26; (refine Calls.mono (HM.out _ _ (by (with_reducible (repeat' (first | exact Below.refl _ _ | assumption | apply bl_alloc | apply bl_drewN | apply bl_drew | refine bl_set ?_ ?_ _))) <;> (first | done | (simp; done) | (simp; omega) | omega))) ?_); rintro en w1 ⟨rfl, oR, o1⟩
  have o1 : Only (· = R) w w1 := (Only.ne_ _ (show Below w.heap.size w w.drew by (with_reducible (repeat' (first | exact Below.refl _ _ | assumption | apply bl_alloc | apply bl_drewN | apply bl_drew | refine bl_set ?_ ?_ _))) <;> (first | done | (simp; done) | (simp; omega) | omega))).trans o1
  go_wp2_with fail
  have x1 : w1.cell? ⟨X, 0, none⟩ = some (.pointer (some ⟨T, o, none⟩)) := (o1.cell (a := ⟨X, 0, none⟩) hXl hXR).trans gX
  have m1 : w1.cell? ⟨M, 0, none⟩ = some (.int .u32 most) := (o1.cell (a := ⟨M, 0, none⟩) hMl hMR).trans gM
  have t1 : w1.cell? ⟨T, o, none⟩ = some (.int .u32 (get s : Nat)) := (o1.cell (a := ⟨T, o, none⟩) hTl hTR).trans t0
  refine hK.out _ _ ⟨oR.2.1 2, x1, m1, t1⟩ fun hS1 => ?_
  (try dsimp only [Act.put]); (try simp only [List.setIfInBounds_toArray, List.set_cons_zero, List.set_cons_succ])
  refine wpAnyH_done (by kernel_rfl) ?_ _
  have HoR := Lib.hid oR
  have HoR1 := Lib.hid o1
  have Ho1 := Lib.hid (HO.out.trans (o1.mono (Q := U) fun i _ e => by rw [e]; exact HW.out.inR))
  have g2 : w1.cell? ⟨Q, 0, none⟩ = _ := (o1.cell (a := ⟨Q, 0, none⟩) hQl hQR).trans gQ
  have hQl1 := Nat.lt_of_lt_of_le hQl o1.size
  have HRep1 := Lib.hid (HW.out.one HRep.out o1)
  have HPre1 : Hid (WrPre R U w0 4 w1 v acc (mustE false e (decide (get s ≤ most)))) := (HPre.out.one o1).of mustE_zero
  have HE : Hid (mustE false e (decide (get s ≤ most)) = 0 → e = 0) := mustE_zero
  have HBX := Lib.hid (show X < w1.heap.size ∧ _ from ⟨Nat.lt_of_lt_of_le hXl o1.size, x1⟩)
  have HBM := Lib.hid (show M < w1.heap.size ∧ _ from ⟨Nat.lt_of_lt_of_le hMl o1.size, m1⟩)
  clear oR o1 hS0 hS1 gQ h2 hQl gX gM t0 hXl hMl hTl x1 m1 t1
  generalize hm : mustE false e (decide (get s ≤ most)) = e1 at *
  have HM1 := Lib.hid hm
  clear hm
  go_upto_region 2 with (go_at_call 120; (refine Calls.mono (HR.out.any Ho1.out HRep1.out HoR.out HPre1.out) ?_); rintro en w2 ⟨rfl, o2, v2, e2, oR2, hst⟩; (have HSt := Lib.hid hst); (have HoR2 := Lib.hid oR2); (have Ho2 := Lib.hid o2); clear hst oR2 o2)
  have Ho02 := Lib.hid (Ho1.out.stepW Ho2.out HW.out.inR HPre1.out.acc)
  have HXn : Hid (¬ (X = R ∨ (e1 = 0 ∧ v.ownBlock = some X))) := fun h => by
    rcases h with h | ⟨h0, h⟩
    · exact hXR h
    · rcases (HPre1.out.acc h0 X h).2 with k | k
      · exact HXP.out k
      · exact absurd HBX0.out (Nat.not_lt_of_le k)
  have HMn : Hid (¬ (M = R ∨ (e1 = 0 ∧ v.ownBlock = some M))) := fun h => by
    rcases h with h | ⟨h0, h⟩
    · exact hMR h
    · rcases (HPre1.out.acc h0 M h).2 with k | k
      · exact HMP.out k
      · exact absurd HBM0.out (Nat.not_lt_of_le k)
  have x2 : w2.cell? ⟨X, 0, none⟩ = some (.pointer (some ⟨T, o, none⟩)) := (Ho2.out.cell (a := ⟨X, 0, none⟩) HBX.out.1 HXn.out).trans HBX.out.2
  have m2 : w2.cell? ⟨M, 0, none⟩ = some (.int .u32 most) := (Ho2.out.cell (a := ⟨M, 0, none⟩) HBM.out.1 HMn.out).trans HBM.out.2
  have HRep2 := Lib.hid (HW.out.stepW HRep1.out HPre1.out.acc Ho2.out)
  obtain ⟨u, t2, rfl, hlt⟩ := HG.out.has _ _ HRep2.out
  have xl2 : X < w2.heap.size := Nat.lt_of_lt_of_le HBX.out.1 Ho2.out.size
  have ml2 : M < w2.heap.size := Nat.lt_of_lt_of_le HBM.out.1 Ho2.out.size
  have tl2 : T < w2.heap.size := HG.out.lt _ _ HRep2.out
  have HM2 := Lib.hid (fun (wx : World) (b : Bool) (hb : Below w2.heap.size w2 wx) => Must_any b (HoR2.out.trk hb))
  clear g2 hQl1 hlt
  go_region_held3 (fun wx => wx.cell? ⟨X, 0, none⟩ = some (.pointer (some ⟨T, o, none⟩)) ∧ wx.cell? ⟨M, 0, none⟩ = some (.int .u32 most) ∧ wx.cell? ⟨T, o, none⟩ = some (.int .u32 (get s : Nat))) (first | exact ⟨y0, y1, y2⟩ | (go_keep)) ((go_at_call 26; (refine Calls.mono (HM2.out _ _ (by (with_reducible (repeat' (first | exact Below.refl _ _ | assumption | apply bl_alloc | apply bl_drewN | apply bl_drew | refine bl_set ?_ ?_ _))) <;> (first | done | (simp; done) | (simp; omega) | omega))) ?_); rintro en w3 ⟨rfl, oR3, o3⟩; (have o3 : Only (· = R) w2 w3 := (Only.ne_ _ (show Below w2.heap.size w2 w2.drew by (with_reducible (repeat' (first | exact Below.refl _ _ | assumption | apply bl_alloc | apply bl_drewN | apply bl_drew | refine bl_set ?_ ?_ _))) <;> (first | done | (simp; done) | (simp; omega) | omega))).trans o3); (have y0 : w3.cell? ⟨X, 0, none⟩ = _ := (o3.cell (a := ⟨X, 0, none⟩) xl2 hXR).trans x2); (have y1 : w3.cell? ⟨M, 0, none⟩ = _ := (o3.cell (a := ⟨M, 0, none⟩) ml2 hMR).trans m2); (have y2 : w3.cell? ⟨T, o, none⟩ = _ := (o3.cell (a := ⟨T, o, none⟩) tl2 hTR).trans t2); (have HoR3 := Lib.hid oR3); (have Ho3 := Lib.hid o3); clear oR3 o3))
  go_wp2
  go_end0
  refine ⟨rfl, ((HoR1.out.mono fun i _ e => .inl e).then_ Ho2.out (fun i _ h => h.imp id fun h => ⟨HE.out h.1, h.2⟩)).then_ Ho3.out (fun i _ h => .inl h), v2, _, HoR3.out, ?_⟩
  have hm := HM1.out
  have hst := HSt.out
  by_cases he : e = 0
  · subst he
    refine .inr ⟨rfl, ?_⟩
    by_cases hok : get s ≤ most
    · rw [mustE, if_pos rfl, if_pos (decide_eq_true hok)] at hm
      subst hm
      rcases hst with ⟨h, _⟩ | ⟨_, ⟨rfl, bs, hq, hA, h2⟩ | ⟨hne, er, hq⟩⟩
      · exact absurd rfl h
      · have h3 := h2.earlier HoR1.out.size
        refine .inl ⟨by rw [mustE, if_pos rfl, if_pos (decide_eq_true hok)], bs, ?_, hA.only Ho3.out (fun g hg e => ?_), h3⟩
        · rw [← hq, qSmall, if_pos hok]; rfl
        · exact ((HPre.out rfl).2.1.next HO.out.size HOl.out h3 g hg).1 e
      · cases hq
    · rw [mustE, if_pos rfl, if_neg (by rw [decide_eq_true_eq]; exact hok)] at hm
      subst hm
      rcases hst with ⟨_, rfl, _⟩ | ⟨h, _⟩
      · exact .inr ⟨by rw [mustE_ne (by decide)]; decide, 1, by rw [qSmall, if_neg hok]⟩
      · cases h
  · rw [mustE_ne he] at hm
    subst hm
    rcases hst with ⟨_, rfl, rfl⟩ | ⟨h, _⟩
    · exact .inl ⟨he, mustE_ne he, rfl⟩
    · exact absurd h he
end
end Go.Proofs.YtgmhapjidbdhnaaGreat
namespace Go.Proofs.YtgmhapjidbdhnaaGreat
open Go.RowKit
section
variable {σ : Type} {Rep : World → σ → Prop} {R : Nat} {P U : Nat → Prop} {w0 : World} {lo T o : Nat} {fv : Value}
/-- A question that is asked of the state. -/
def IsCond (Rep : World → σ → Prop) (W : World → Prop) (fv : Value) (c : σ → Bool) : Prop :=
  ∃ f cap, fv = .func (.func f) #[] cap ∧ Enters Tryz.prog f ∧ ∀ w s, W w → Rep w s → Calls Tryz.prog f cap w fun en w' => en = .returned (.bool (c s)) ∧ Below w.heap.size w w'
/-- Parts, if it is so. -/
def ifP' (c : σ → Bool) (rd : σ → Ps σ) : σ → Ps σ := fun s => if c s = true then rd s else Ps.pure s
def ifQ' (c : σ → Bool) (wr : σ → Except Int (List UInt8)) : σ → Except Int (List UInt8) := fun s => if c s = true then wr s else .ok []
set_option maxRecDepth 100000 in
set_option maxHeartbeats 4000000 in
theorem If_part {ps : List (Value × (σ → Ps σ))} {iv lv : Value} {c : σ → Bool} (hS : RepR Rep R P) (hc : IsCond Rep (Only P w0) iv c) (hp : ∀ p ∈ ps, IsRd Rep R P w0 p.1 p.2) (hv : PL w0 lv (ps.map (·.1))) (hn : ∀ g, Value.inBlock lv = some g → ¬ P g)
    (h : IfShape w0 lo fv iv lv) (hlo : ∀ i, lo ≤ i → i < w0.heap.size → ¬ P i) : ∃ cap, fv = .func (.func 88) #[] cap ∧ RdPart Rep R P w0 88 cap (ifP' c (seqP (ps.map (·.2)))) := by
  obtain ⟨I, L, rfl, bI, bL⟩ := h
  refine ⟨_, rfl, RdPart.of_any (fun args w => by kernel_rfl) fun w s v k e xs ho hRep hO hpre => ?_⟩
  have gI := (bI.later ho hlo).2.2; have gL := (bL.later ho hlo).2.2
  have hIl := (bI.later ho hlo).2.1; have hLl := (bL.later ho hlo).2.1
  have h3 : w.cell? ⟨R, 3, none⟩ = some (.int .i64 e) := hO.2.1 3
  have hRl := hO.1
  obtain ⟨f, cap, rfl, eg, hcall⟩ := hc
  have eg2 : ∀ (args : Array Value) (wx : World), (callFunc f args).run Tryz.prog wx = .ok (.enter f args) wx := eg
  have HC := Lib.hid (hcall w s ho hRep)
  have HRep := Lib.hid hRep; have HOw := Lib.hid hO; have HO := Lib.hid ho; have HPre := Lib.hid hpre; have HP := Lib.hid hp; have HV := Lib.hid hv; have HN := Lib.hid hn; have HS := Lib.hid hS
  clear hRep hO ho hpre hp hv hn hS hlo bI bL hcall eg
  show Calls Tryz.prog 88 #[.pointer (some ⟨R, 0, none⟩), .pointer (some ⟨I, 0, none⟩), .pointer (some ⟨L, 0, none⟩)] w _
  by_cases he : e = 0
  · subst he
    rcases hcs : c s with _ | _
    · rw [hcs] at HC
      have HCS := Lib.hid hcs
      clear hcs
      go_enter Tryz.func88, Tryz.ntmps88
      go_wp2_with (go_at_fn f; (refine Calls.mono HC.out ?_); rintro en w1 ⟨rfl, b1⟩; (have Hb1 := Lib.hid b1); clear b1)
      go_end0
      have hB := HPre.out rfl
      refine ⟨rfl, Only.ne_ P Hb1.out, s, k, 0, HOw.out.trk Hb1.out, HS.out.frR _ _ _ HRep.out (Only.ne_ _ Hb1.out), .inr ⟨rfl, .inl ⟨0, ?_, rfl, hB.2.2.1, rfl⟩⟩⟩
      rw [ifP', HCS.out]; rfl
    · rw [hcs] at HC
      have HCS := Lib.hid hcs
      clear hcs
      go_enter Tryz.func88, Tryz.ntmps88
      go_wp2_with (first
        | (go_at_fn f; (refine Calls.mono HC.out ?_); rintro en w1 ⟨rfl, b1⟩; (have Hb1 := Lib.hid b1); (have g1 : w1.cell? ⟨L, 0, none⟩ = _ := ((bcell b1).1 _ 0 hLl).trans gL); (have hLl1 := Nat.lt_of_lt_of_le hLl b1.size); clear b1)
        | (go_at_call 24; (refine Calls.mono (Do_any HP.out HV.out HN.out (HO.out.trans (Only.ne_ P Hb1.out)) (HS.out.frR _ _ _ HRep.out (Only.ne_ _ Hb1.out)) (HOw.out.trk Hb1.out) (HPre.out.only (Only.ne_ P Hb1.out))) ?_); rintro en w2 ⟨rfl, o2, hp2⟩; (have HP2 := Lib.hid hp2); (have Ho2 := Lib.hid o2); clear o2 hp2))
      go_end0
      obtain ⟨s', k', e', hO', hR', hst⟩ := HP2.out
      refine ⟨rfl, (Only.ne_ P Hb1.out).trans Ho2.out, s', k', e', hO', hR', ?_⟩
      rw [ifP', HCS.out, if_pos rfl]
      rcases hst with ⟨h, _⟩ | ⟨_, hst⟩
      · exact absurd rfl h
      · exact .inr ⟨rfl, hst⟩
  · clear HC gI gL
    go_enter Tryz.func88, Tryz.ntmps88
    go_wp2
    go_end0
    exact ⟨rfl, Only.refl _ _, s, k, e, HOw.out, HRep.out, .inl ⟨he, rfl, rfl⟩⟩
theorem seqQ_len {ps : List (Value × (σ → Except Int (List UInt8)))} {d : Nat} (hp : ∀ p ∈ ps, IsWr Rep R U w0 p.1 p.2 d) {w : World} {s : σ} {bs : List UInt8} (hR : Rep w s) (h : seqQ (ps.map (·.2)) s = .ok bs) : bs.length ≤ ps.length * d := by
  unfold seqQ at h
  have := catP_len h d (fun r hr c hc => by
    simp only [List.map_map, List.mem_map] at hr
    obtain ⟨p, hpm, rfl⟩ := hr
    obtain ⟨f, cap, _, hw⟩ := hp p hpm
    exact hw.len w s c hR hc)
  simpa using this
set_option maxRecDepth 100000 in
set_option maxHeartbeats 4000000 in
theorem If_partW {ps : List (Value × (σ → Except Int (List UInt8)))} {d : Nat} {iv lv : Value} {c : σ → Bool} (hW : RepW Rep R U w0) (hc : IsCond Rep (Only U w0) iv c) (hp : ∀ p ∈ ps, IsWr Rep R U w0 p.1 p.2 d) (hv : PL w0 lv (ps.map (·.1))) (hn : ∀ g, Value.inBlock lv = some g → ¬ U g)
    (h : IfShape w0 lo fv iv lv) (hlo : ∀ i, lo ≤ i → i < w0.heap.size → ¬ U i) : ∃ cap, fv = .func (.func 88) #[] cap ∧ WrPart Rep R U w0 88 cap (ifQ' c (seqQ (ps.map (·.2)))) (ps.length * d) := by
  obtain ⟨I, L, rfl, bI, bL⟩ := h
  refine ⟨_, rfl, WrPart.of_any (fun args w => by kernel_rfl) (fun w s bs hRep hq => ?_) fun w s v e acc ho hRep hO hpre => ?_⟩
  · unfold ifQ' at hq
    split at hq
    · exact seqQ_len hp hRep hq
    · injection hq with hq; rw [← hq]; exact Nat.zero_le _
  have gI := (bI.later ho hlo).2.2; have gL := (bL.later ho hlo).2.2
  have hIl := (bI.later ho hlo).2.1; have hLl := (bL.later ho hlo).2.1
  have h3 : w.cell? ⟨R, 3, none⟩ = some (.int .i64 e) := hO.2.1 3
  have hRl := hO.1
  obtain ⟨f, cap, rfl, eg, hcall⟩ := hc
  have eg2 : ∀ (args : Array Value) (wx : World), (callFunc f args).run Tryz.prog wx = .ok (.enter f args) wx := eg
  have HC := Lib.hid (hcall w s ho hRep)
  have HRep := Lib.hid hRep; have HOw := Lib.hid hO; have HO := Lib.hid ho; have HPre := Lib.hid hpre; have HP := Lib.hid hp; have HV := Lib.hid hv; have HN := Lib.hid hn; have HW := Lib.hid hW
  clear hRep hO ho hpre hp hv hn hW hlo bI bL hcall eg
  show Calls Tryz.prog 88 #[.pointer (some ⟨R, 0, none⟩), .pointer (some ⟨I, 0, none⟩), .pointer (some ⟨L, 0, none⟩)] w _
  by_cases he : e = 0
  · subst he
    rcases hcs : c s with _ | _
    · rw [hcs] at HC
      have HCS := Lib.hid hcs
      clear hcs
      go_enter Tryz.func88, Tryz.ntmps88
      go_wp2_with (go_at_fn f; (refine Calls.mono HC.out ?_); rintro en w1 ⟨rfl, b1⟩; (have Hb1 := Lib.hid b1); clear b1)
      go_end0
      have hA := (HPre.out rfl).1.below Hb1.out
      refine ⟨rfl, Only.ne_ _ Hb1.out, v, 0, HOw.out.trk Hb1.out, .inr ⟨rfl, .inl ⟨rfl, [], ?_, by rw [List.append_nil]; exact hA, Own2.refl _ _⟩⟩⟩
      rw [ifQ', HCS.out]; rfl
    · rw [hcs] at HC
      have HCS := Lib.hid hcs
      clear hcs
      go_enter Tryz.func88, Tryz.ntmps88
      go_wp2_with (first
        | (go_at_fn f; (refine Calls.mono HC.out ?_); rintro en w1 ⟨rfl, b1⟩; (have Hb1 := Lib.hid b1); (have g1 : w1.cell? ⟨L, 0, none⟩ = _ := ((bcell b1).1 _ 0 hLl).trans gL); (have hLl1 := Nat.lt_of_lt_of_le hLl b1.size); clear b1)
        | (go_at_call 24; (refine Calls.mono (Do_anyW HW.out HP.out HV.out HN.out (HO.out.below Hb1.out) (HW.out.new HRep.out Hb1.out) (HOw.out.trk Hb1.out) (HPre.out.below Hb1.out)) ?_); rintro en w2 ⟨rfl, o2, hp2⟩; (have HP2 := Lib.hid hp2); (have Ho2 := Lib.hid o2); clear o2 hp2))
      go_end0
      obtain ⟨v', e', hO', hst⟩ := HP2.out
      refine ⟨rfl, (Only.ne_ _ Hb1.out).trans (Ho2.out.mono fun i _ h => h.imp id fun h => ⟨rfl, h.2⟩), v', e', hO', ?_⟩
      rw [ifQ', HCS.out, if_pos rfl]
      rcases hst with ⟨h, _⟩ | ⟨_, ⟨rfl, bs, hq, hA, h2⟩ | hst⟩
      · exact absurd rfl h
      · exact .inr ⟨rfl, .inl ⟨rfl, bs, hq, hA, h2.earlier Hb1.out.size⟩⟩
      · exact .inr ⟨rfl, .inr hst⟩
  · clear HC gI gL
    go_enter Tryz.func88, Tryz.ntmps88
    go_wp2
    go_end0
    exact ⟨rfl, Only.refl _ _, v, e, HOw.out, .inl ⟨he, rfl, rfl⟩⟩
theorem OptC_any {W : World → Prop} {H : Nat} {get : σ → Bool} (hH : ∀ w, W w → w.cell? ⟨H, 0, none⟩ = some (.pointer (some ⟨T, o, none⟩))) (hG : FldG Rep R T o dBool get) : IsCond Rep W (.func (.func 81) #[] #[.pointer (some ⟨H, 0, none⟩)]) get := by
  refine ⟨_, _, rfl, fun args w => by kernel_rfl, fun w s hw hRep => ?_⟩
  have g1 := hH w hw
  obtain ⟨u, g2, hu⟩ := hG.has w s hRep
  cases hu
  clear hH hG hw hRep
  go_enter Tryz.func81, Tryz.ntmps81
  go_wp2
  go_ret
  exact ⟨rfl, Below.refl _ _⟩
end
end Go.Proofs.YtgmhapjidbdhnaaGreat
namespace Go.Proofs.YtgmhapjidbdhnaaGreat
open Go.RowKit
section
variable {σ : Type} {Rep : World → σ → Prop} {R : Nat} {P U : Nat → Prop} {w0 : World} {lo T o n c : Nat} {A : Option Addr} {fv : Value}
set_option maxRecDepth 100000 in
set_option maxHeartbeats 4000000 in
theorem Option_isRd {ps : List (Value × (σ → Ps σ))} {set : Bool → σ → σ} {get : σ → Bool} (hS : RepR Rep R P) (hF : FldS Rep R P T o eBool set) (hG : FldG Rep R T o dBool get) (hp : ∀ p ∈ ps, IsRd Rep R P w0 p.1 p.2) (hv : PL w0 (.slice A n c) (ps.map (·.1))) (hn : ∀ g, Value.inBlock (.slice A n c) = some g → ¬ P g)
    (h : OptionShape w0 lo fv T o (.slice A n c)) (hlo : ∀ i, lo ≤ i → i < w0.heap.size → ¬ P i) : IsRd Rep R P w0 fv (fun s => Ps.bind (fld pYes set s) (ifP' get (seqP (ps.map (·.2))))) := by
  obtain ⟨Y, H, L, qf, qc, rfl, bY, bH, bL, hin⟩ := h
  obtain ⟨_, _, hfe, hr⟩ := Yes_isRd hS hF hin hlo
  obtain ⟨gv, pv, hsh, _, _⟩ := hin
  obtain ⟨X', G', Pb', hb, _⟩ := hsh.box
  obtain ⟨rfl, rfl⟩ := func_inj hb
  obtain ⟨rfl, rfl⟩ := func_inj hfe
  clear hb hfe hsh
  refine ⟨_, _, rfl, RdPart.of_any (fun args w => by kernel_rfl) fun w s v k e xs ho hRep hO hpre => ?_⟩
  have gY := (bY.later ho hlo).2.2; have gL := (bL.later ho hlo).2.2; have gH := (bH.later ho hlo).2.2
  have hYl := (bY.later ho hlo).2.1; have hLl := (bL.later ho hlo).2.1; have hHl := (bH.later ho hlo).2.1
  have hLP := Lib.hid (hlo _ bL.1 bL.2.1); have hHP := Lib.hid (hlo _ bH.1 bH.2.1)
  have hRl := hO.1
  have HRep := Lib.hid hRep; have HOw := Lib.hid hO; have HO := Lib.hid ho; have HPre := Lib.hid hpre; have HP := Lib.hid hp; have HV := Lib.hid hv; have HN := Lib.hid hn; have HS := Lib.hid hS; have HG := Lib.hid hG; have HR := Lib.hid hr
  clear hRep hO ho hpre hp hv hn hS hlo bY bL bH hF hG hr
  show Calls Tryz.prog 80 #[.pointer (some ⟨R, 0, none⟩), .pointer (some ⟨Y, 0, none⟩), .pointer (some ⟨H, 0, none⟩), .pointer (some ⟨L, 0, none⟩)] w _
  go_enter Tryz.func80, Tryz.ntmps80
  go_wp2_with (first
    | (go_at_call 127; (refine Calls.mono (HR.out.any HO.out HRep.out HOw.out HPre.out) ?_); rintro en w1 ⟨rfl, o1, s1, k1, e1, oR1, hRep1, hst⟩; (have HSt := Lib.hid hst); (have HOw1 := Lib.hid oR1); (have HRep1 := Lib.hid hRep1); (have Ho1 := Lib.hid o1); (have hRl1 := oR1.1); (have gL1 : w1.cell? ⟨L, 0, none⟩ = _ := (o1.cell (a := ⟨L, 0, none⟩) hLl hLP.out).trans gL); (have hLl1 := Nat.lt_of_lt_of_le hLl o1.size); (have HgH := Lib.hid (show H < w1.heap.size ∧ w1.cell? ⟨H, 0, none⟩ = _ from ⟨Nat.lt_of_lt_of_le hHl o1.size, (o1.cell (a := ⟨H, 0, none⟩) hHl hHP.out).trans gH⟩)); (have HPre1 := Lib.hid (HPre.out.next o1 hst)); clear hst oR1 hRep1 o1)
    | (go_at_call 48; (refine Calls.mono If_mk ?_); rintro en w2 ⟨fv2, rfl, b2, sh2⟩; (obtain ⟨cap2, rfl, hr2⟩ := If_part (w0 := w2) HS.out (OptC_any (fun wx hw => (hw.cell (a := ⟨H, 0, none⟩) (Nat.lt_of_lt_of_le HgH.out.1 b2.size) hHP.out).trans (((bcell b2).1 _ 0 HgH.out.1).trans HgH.out.2)) HG.out) (fun p hp => (HP.out p hp).later ((HO.out.trans Ho1.out).below b2)) (HV.out.only ((HO.out.trans Ho1.out).below b2) HN.out) HN.out sh2 (fun i h1 h2 hi => by
        by_cases hi2 : i = R
        · rw [hi2] at h1; exact absurd hRl1 (Nat.not_lt_of_le h1)
        · exact absurd (HS.out.old _ _ HRep1.out i hi hi2) (Nat.not_lt_of_le h1))); (have HR2 := Lib.hid hr2); (have Hb2 := Lib.hid b2); clear hr2 b2 sh2)
    | (go_at_call 88; (refine Calls.mono (HR2.out.any (Only.refl _ _) (HS.out.frR _ _ _ HRep1.out (Only.ne_ _ Hb2.out)) (HOw1.out.trk Hb2.out) (HPre1.out.only (Only.ne_ P Hb2.out))) ?_); rintro en w3 ⟨rfl, o3, hp3⟩; (have HP3 := Lib.hid hp3); (have Ho3 := Lib.hid o3); clear o3 hp3))
  go_end0
  obtain ⟨s', k', e', hO', hR', hst⟩ := HP3.out
  exact ⟨rfl, (Ho1.out.below Hb2.out).trans Ho3.out, s', k', e', hO', hR', RdTo.bind2 HSt.out hst⟩
theorem optIf_part {ps : List (Value × (σ → Except Int (List UInt8)))} {d H : Nat} {get : σ → Bool} {w1 w2 : World} {fv2 : Value} (hW : RepW Rep R U w0) (hG : FldG Rep R T o dBool get) (hp : ∀ p ∈ ps, IsWr Rep R U w0 p.1 p.2 d) (hv : PL w0 (.slice A n c) (ps.map (·.1))) (hn : ∀ g, Value.inBlock (.slice A n c) = some g → ¬ U g)
    (ho1 : Only U w0 w1) (b2 : Below w1.heap.size w1 w2) (hR1 : R < w1.heap.size) (hH : H < w1.heap.size ∧ w1.cell? ⟨H, 0, none⟩ = some (.pointer (some ⟨T, o, none⟩))) (hHU : ¬ U H) (hH0 : H < w0.heap.size)
    (sh2 : IfShape w2 w1.heap.size fv2 (.func (.func 81) #[] #[.pointer (some ⟨H, 0, none⟩)]) (.slice A n c)) :
    ∃ cap, fv2 = .func (.func 88) #[] cap ∧ WrPart Rep R (fun i => (U i ∨ w0.heap.size ≤ i) ∧ i < w1.heap.size) w2 88 cap (ifQ' get (seqQ (ps.map (·.2)))) (ps.length * d) := by
  have ho2 := ho1.below b2
  have hW2 : RepW Rep R (fun i => (U i ∨ w0.heap.size ≤ i) ∧ i < w1.heap.size) w2 := ⟨⟨.inl hW.inR, hR1⟩, fun wa wb s h o => hW.frW wa wb s h (o.mono fun i _ h => by
    rcases h with ⟨h, _⟩ | h
    · exact h
    · exact .inr (Nat.le_trans ho2.size h))⟩
  have hc := OptC_any (Rep := Rep) (W := Only (fun i => (U i ∨ w0.heap.size ≤ i) ∧ i < w1.heap.size) w2) (H := H) (fun wx hw => (hw.cell (a := ⟨H, 0, none⟩) (Nat.lt_of_lt_of_le hH.1 b2.size) (fun h => by
    rcases h with ⟨h | h, _⟩
    · exact hHU h
    · exact absurd hH0 (Nat.not_lt_of_le h))).trans (((bcell b2).1 _ 0 hH.1).trans hH.2)) hG
  refine If_partW hW2 hc (fun p hpm => (hp p hpm).later ho2 (fun i h1 h2 => ?_) (fun i h => h.1)) (hv.only ho2 hn) (fun g hg h => ?_) sh2 (fun i h1 h2 h => absurd h.2 (Nat.not_lt_of_le h1))
  · rcases h2 with ⟨h2 | h2, _⟩
    · exact h2
    · exact absurd h1 (Nat.not_lt_of_le h2)
  · rcases h with ⟨h | h, _⟩
    · exact hn g hg h
    · rcases hv with ⟨h1, _⟩ | ⟨b', off', c', h1, _, h2, _⟩
      · injection h1 with h1; subst h1; cases hg
      · injection h1 with h1; subst h1; injection hg with hg; subst hg
        exact absurd h2 (Nat.not_lt_of_le h)
theorem OwnB.block_lt {w : World} {base g : Nat} {v : Value} {bs : List UInt8} (h : OwnB w base v bs) (hg : v.ownBlock = some g) : g < w.heap.size := by
  unfold OwnB at h
  rcases h.2 with ⟨rfl, _⟩ | ⟨g', c', cur', rfl, _, hh, _⟩
  · cases hg
  · injection hg with hg; subst hg
    exact (Array.getElem?_eq_some_iff.1 hh).1
theorem opt_pre {d : Nat} {w w1 w2 : World} {v v1 : Value} {acc : List UInt8} {e e1 : Int} {y : Bool} (hpre : WrPre R U w0 (4 + d) w v acc e) (hs : w0.heap.size ≤ w.heap.size) (hR : R < w.heap.size)
    (hst : (e ≠ 0 ∧ e1 = e ∧ v1 = v) ∨ (e = 0 ∧ ((e1 = 0 ∧ ∃ bs, (Except.ok (putYes y) : Except Int (List UInt8)) = .ok bs ∧ OwnB w1 0 v1 (acc ++ bs) ∧ Own2 w v v1) ∨ (e1 ≠ 0 ∧ ∃ er, (Except.ok (putYes y) : Except Int (List UInt8)) = .error er)))) (b2 : Below w1.heap.size w1 w2) :
    WrPre R (fun i => (U i ∨ w0.heap.size ≤ i) ∧ i < w1.heap.size) w2 d w2 v1 (acc ++ putYes y) e1 := fun he1 => by
  rcases hst with ⟨hne, h1, _⟩ | ⟨rfl, ⟨_, bs, hq, hA, h2⟩ | ⟨h1, _⟩⟩
  · exact absurd (h1.symm.trans he1) hne
  · injection hq with hq
    subst hq
    obtain ⟨k1, k2, k3⟩ := hpre rfl
    refine ⟨hA.below b2, fun g hg => ⟨(k2.next hs hR h2 g hg).1, .inl ⟨(k2.next hs hR h2 g hg).2, hA.block_lt hg⟩⟩, ?_⟩
    have h7 : (putYes y).length = 4 := rfl
    rw [List.length_append]; omega
  · exact absurd he1 h1
set_option maxRecDepth 100000 in
set_option maxHeartbeats 4000000 in
theorem Option_isWr {ps : List (Value × (σ → Except Int (List UInt8)))} {d : Nat} {get : σ → Bool} (hW : RepW Rep R U w0) (hG : FldG Rep R T o dBool get) (hp : ∀ p ∈ ps, IsWr Rep R U w0 p.1 p.2 d) (hv : PL w0 (.slice A n c) (ps.map (·.1))) (hn : ∀ g, Value.inBlock (.slice A n c) = some g → ¬ U g)
    (h : OptionShape w0 lo fv T o (.slice A n c)) (hlo : ∀ i, lo ≤ i → i < w0.heap.size → ¬ U i) : IsWr Rep R U w0 fv (fun s => cat2 (.ok (putYes (get s))) (ifQ' get (seqQ (ps.map (·.2))) s)) (4 + ps.length * d) := by
  obtain ⟨Y, H, L, qf, qc, rfl, bY, bH, bL, hin⟩ := h
  obtain ⟨_, _, hfe, hr⟩ := Yes_isWr hW hG hin hlo
  obtain ⟨gv, pv, hsh, _, _⟩ := hin
  obtain ⟨X', G', Pb', hb, _⟩ := hsh.box
  obtain ⟨rfl, rfl⟩ := func_inj hb
  obtain ⟨rfl, rfl⟩ := func_inj hfe
  clear hb hfe hsh
  refine ⟨_, _, rfl, WrPart.of_any (fun args w => by kernel_rfl) (fun w s bs hRep hq => ?_) fun w s v e acc ho hRep hO hpre => ?_⟩
  · obtain ⟨b1, b2, e1, e2, rfl⟩ := cat2_ok hq
    injection e1 with e1
    subst e1
    have h1 : (putYes (get s)).length = 4 := rfl
    have h2 : b2.length ≤ ps.length * d := by
      unfold ifQ' at e2
      split at e2
      · exact seqQ_len hp hRep e2
      · injection e2 with e2; rw [← e2]; exact Nat.zero_le _
    rw [List.length_append]; omega
  have gY := (bY.later ho hlo).2.2; have gL := (bL.later ho hlo).2.2; have gH := (bH.later ho hlo).2.2
  have hYl := (bY.later ho hlo).2.1; have hLl := (bL.later ho hlo).2.1; have hHl := (bH.later ho hlo).2.1
  have hUn : ∀ i, lo ≤ i → i < w0.heap.size → ¬ (i = R ∨ (e = 0 ∧ v.ownBlock = some i)) := fun i h1 h2 h => by
    rcases h with h | ⟨he, h⟩
    · exact hlo i h1 h2 (h ▸ hW.inR)
    · rcases (hpre.acc he i h).2 with k | k
      · exact hlo i h1 h2 k
      · exact absurd h2 (Nat.not_lt_of_le k)
  have hLn := Lib.hid (hUn _ bL.1 bL.2.1); have hHn := Lib.hid (hUn _ bH.1 bH.2.1)
  have hHU := Lib.hid (hlo _ bH.1 bH.2.1)
  have HH0 := Lib.hid bH.2.1
  have hRl := hO.1
  have HRep := Lib.hid hRep; have HOw := Lib.hid hO; have HO := Lib.hid ho; have HPre := Lib.hid hpre; have HP := Lib.hid hp; have HV := Lib.hid hv; have HN := Lib.hid hn; have HW := Lib.hid hW; have HG := Lib.hid hG; have HR := Lib.hid hr
  clear hRep hO ho hpre hp hv hn hW hlo bY bL bH hG hr hUn
  show Calls Tryz.prog 80 #[.pointer (some ⟨R, 0, none⟩), .pointer (some ⟨Y, 0, none⟩), .pointer (some ⟨H, 0, none⟩), .pointer (some ⟨L, 0, none⟩)] w _
  go_enter Tryz.func80, Tryz.ntmps80
  go_wp2_with (first
    | (go_at_call 127; (refine Calls.mono (HR.out.any HO.out HRep.out HOw.out (HPre.out.less (by omega))) ?_); rintro en w1 ⟨rfl, o1, v1, e1, oR1, hst⟩; (have HSt := Lib.hid hst); (have HOw1 := Lib.hid oR1); (have HRep1 := Lib.hid (HW.out.stepW HRep.out HPre.out.acc o1)); (have Hw1 := Lib.hid o1); (have Ho1 := Lib.hid (HO.out.stepW o1 HW.out.inR HPre.out.acc)); (have hRl1 := oR1.1); (have gL1 : w1.cell? ⟨L, 0, none⟩ = _ := (o1.cell (a := ⟨L, 0, none⟩) hLl hLn.out).trans gL); (have hLl1 := Nat.lt_of_lt_of_le hLl o1.size); (have HgH := Lib.hid (show H < w1.heap.size ∧ w1.cell? ⟨H, 0, none⟩ = _ from ⟨Nat.lt_of_lt_of_le hHl o1.size, (o1.cell (a := ⟨H, 0, none⟩) hHl hHn.out).trans gH⟩)); clear hst oR1 o1)
    | (go_at_call 48; (refine Calls.mono If_mk ?_); rintro en w2 ⟨fv2, rfl, b2, sh2⟩; (obtain ⟨cap2, rfl, hr2⟩ := optIf_part HW.out HG.out HP.out HV.out HN.out Ho1.out b2 hRl1 HgH.out hHU.out HH0.out sh2); (have HR2 := Lib.hid hr2); (have Hb2 := Lib.hid b2); clear hr2 b2 sh2)
    | (go_at_call 88; (refine Calls.mono (HR2.out.any (acc := acc ++ putYes (get s)) (Only.refl _ _) (HW.out.new HRep1.out Hb2.out) (HOw1.out.trk Hb2.out) (opt_pre HPre.out HO.out.size hRl HSt.out Hb2.out)) ?_); rintro en w3 ⟨rfl, o3, hp3⟩; (have HP3 := Lib.hid hp3); (have Ho3 := Lib.hid o3); clear o3 hp3))
  go_end0
  obtain ⟨v', e', hO', hst⟩ := HP3.out
  refine ⟨rfl, (Hw1.out.below Hb2.out).then_ Ho3.out (fun i hi h => ?_), v', e', hO', ?_⟩
  · rcases h with h | ⟨he1, h⟩
    · exact .inl h
    · rcases HSt.out with ⟨hne, h1, _⟩ | ⟨he, ⟨_, bs, hq, hA, h2⟩ | ⟨h1, _⟩⟩
      · exact absurd (h1.symm.trans he1) hne
      · rcases h2 with h2 | h2
        · exact .inr ⟨he, by rw [← h2]; exact h⟩
        · exact absurd hi (Nat.not_lt_of_le (h2 i h))
      · exact absurd he1 h1
  · rcases HSt.out with ⟨hne, rfl, rfl⟩ | ⟨rfl, ⟨rfl, bs, hq, hA, h2⟩ | ⟨hne1, er, hq⟩⟩
    · rcases hst with ⟨_, rfl, rfl⟩ | ⟨h, _⟩
      · exact .inl ⟨hne, rfl, rfl⟩
      · exact absurd h hne
    · rcases hst with ⟨h, _⟩ | ⟨_, ⟨rfl, bs2, hq2, hA2, h3⟩ | ⟨hne2, er, hq2⟩⟩
      · exact absurd rfl h
      · refine .inr ⟨rfl, .inl ⟨rfl, putYes (get s) ++ bs2, by rw [hq2]; rfl, by rw [← List.append_assoc]; exact hA2, h2.trans (Nat.le_trans Hw1.out.size Hb2.out.size) h3⟩⟩
      · exact .inr ⟨rfl, .inr ⟨hne2, er, by rw [hq2]; rfl⟩⟩
    · cases hq
end
end Go.Proofs.YtgmhapjidbdhnaaGreat

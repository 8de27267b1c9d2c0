/- A region of a function that defers, in which a call may panic: what holds of the frame there. -/
import Derived.Test.YtgmhapjidbdhnaaGreatJB
import Derived.StillTailTactics
import Derived.Test.YtgmhapjidbdhnaaGreatJC
import Derived.Deep.RegionHeld2
set_option linter.unusedVariables false
set_option linter.unusedSimpArgs false
namespace Go
theorem region_tail {P : Program} {id : Nat} {Q : Exit → Act → World → Prop} {a : Act} {w : World} {l : List Oper} (n : Nat) (hm : P.follows .mixedOrders = true) (hB : Region.lexTailB .any l.toArray n = true)
    (h : ∀ w3, w.drew = w3 → wpStill P l.toArray w3 (fun a' => wpList P l.toArray Q (l.drop n) a' w3) (l.take n) a) : (Code.region id l.toArray true).wp P Q a w := wp_region_still_tail n hm hB (h _ rfl)
end Go
namespace Go.Proofs.YtgmhapjidbdhnaaGreat
open Go.RowKit
section
variable {R : Nat} {A : Option Addr} {n cap k : Nat} {xs : List UInt8} {w : World}
theorem pAttrs_short {b : List UInt8} (h : b.length < 84) : pAttrs b = .error 4 := by rw [pAttrs, if_pos h]

end
end Go.Proofs.YtgmhapjidbdhnaaGreat
namespace Go.Proofs.YtgmhapjidbdhnaaGreat
open Go.RowKit
section
variable {R : Nat} {A : Option Addr} {n cap k : Nat} {xs : List UInt8} {w : World}
theorem pHad_no {α : Type} {p : Ps α} {z : α} {b : List UInt8} {j : Nat} (h : pYes b = .ok (false, j)) : pHad p z b = .ok ((z, false), j) := by
  rw [pHad, Ps.bind_ok h]; rfl
theorem pHad_yes {α : Type} {p : Ps α} {z x : α} {b : List UInt8} {j m : Nat} (h : pYes b = .ok (true, j)) (h' : p (b.drop j) = .ok (x, m)) : pHad p z b = .ok ((x, true), j + m) := by
  rw [pHad, Ps.bind_ok h]; simp [Ps.bind, h', Ps.pure]
theorem pHad_yes_bad {α : Type} {p : Ps α} {z : α} {b : List UInt8} {j : Nat} {er : Int} (h : pYes b = .ok (true, j)) (h' : p (b.drop j) = .error er) : pHad p z b = .error er := by
  rw [pHad, Ps.bind_ok h]; simp [Ps.bind, h']
theorem pHad_bad {α : Type} {p : Ps α} {z : α} {b : List UInt8} {er : Int} (h : pYes b = .error er) : pHad p z b = .error er := Ps.bind_error h
def eHad {α : Type} (enc : α → Value) (x : α × Bool) : Value := .tuple #[enc x.1, .bool x.2]

set_option maxRecDepth 100000 in
set_option maxHeartbeats 4000000 in
theorem mode_any {P : Nat} (hP : w.cell? ⟨P, 0, none⟩ = some (.pointer (some ⟨R, 0, none⟩))) (hR : RB w R A n cap k) (hB : Bs w A n xs) (hc : n ≤ cap) (hk : k ≤ n) :
    Calls Tryz.prog 96 #[.pointer (some ⟨P, 0, none⟩)] w (RdPost pMode eNum R A n cap k xs w) := by
  have HR := Lib.hid hR; have HB := Lib.hid hB
  have hRs := hR.lt
  clear hR hB
  go_enter Tryz.func96, Tryz.ntmps96
  go_wp2_with fail
  refine (number_any HR.out HB.out hc hk).mono ?_
  rintro e w1 (⟨v, j, hp, hl, rfl, hR', hg⟩ | ⟨er, hp, rfl, hg⟩)
  · have HR' := Lib.hid hR'; have HG := Lib.hid hg; clear hR' hg
    simp only [eNum]
    by_cases hm : v ≤ 4095
    · have hd : decide ((v : Int) ≤ 4095) = true := by simp; omega
      have hp : Hid (pMode (xs.drop k) = .ok (v, j)) := by rw [Hid, pMode, Ps.bind_ok hp]; simp [Ps.bind, Ps.need, Ps.pure, hm]
      go_wp2_with (go_at_call 31; refine Calls.mono (must_yes _ _) ?_; rintro e w' ⟨rfl, rfl⟩)
      go_ret
      exact .inl ⟨v, j, Hid.out ‹Hid (pMode _ = _)›, hl, rfl, HR'.out, HG.out⟩
    · have hd : decide ((v : Int) ≤ 4095) = false := by simp; omega
      have hp : Hid (pMode (xs.drop k) = .error 5) := by rw [Hid, pMode, Ps.bind_ok hp]; simp [Ps.bind, Ps.need, hm]
      go_wp2_with (go_at_call 31; refine Calls.mono (must_no _ _) ?_; rintro e w' ⟨rfl, rfl⟩)
      exact ⟨rfl, .inr ⟨5, Hid.out ‹Hid (pMode _ = _)›, rfl, HG.out⟩⟩
  · have hp := Lib.hid hp
    have HG := Lib.hid hg; clear hg
    go_wp2
    exact ⟨rfl, .inr ⟨er, Ps.bind_error (Hid.out ‹Hid (pNum _ = _)›), rfl, HG.out⟩⟩

set_option maxRecDepth 100000 in
set_option maxHeartbeats 4000000 in
theorem hadNum  (hR : RB w R A n cap k) (hB : Bs w A n xs) (hc : n ≤ cap) (hk : k ≤ n) :
    Calls Tryz.prog 95 #[.pointer (some ⟨R, 0, none⟩), .func (.func 97) #[.pointer (some ⟨R, 0, none⟩)] #[]] w (RdPost (pHad pNum 0) (eHad eNum) R A n cap k xs w) := by
  have HR := Lib.hid hR; have HB := Lib.hid hB
  have hRs := hR.lt
  clear hR hB
  go_enter Tryz.func95, Tryz.ntmps95
  go_wp2_with fail
  refine (yes_any HR.out HB.out hc hk).mono ?_
  rintro e w1 (⟨v, j, hp, hl, rfl, hR', hg⟩ | ⟨er, hp, rfl, hg⟩)
  · have hp := Lib.hid hp
    cases v
    · simp only [eYes]
      have HR' := Lib.hid hR'; have HG := Lib.hid hg; clear hR' hg
      go_wp2
      refine bodyPost_ret (v := .tuple #[_, _]) (by simp (maxDischargeDepth := 8) [results, Tryz.results95, go_sem]; exact ⟨rfl, rfl⟩) rfl ?_
      exact .inl ⟨(0, false), j, pHad_no (Hid.out ‹Hid (pYes _ = _)›), hl, rfl, HR'.out, HG.out⟩
    · simp only [eYes]
      have HR' := Lib.hid hR'; have HG := Lib.hid hg; clear hR' hg
      go_wp2_with fail
      refine (number_any HR'.out (HB.out.turn HR.out HG.out) hc hl).mono ?_
      rintro e w2 (⟨x, m, hp2, hl2, rfl, hR2, hg2⟩ | ⟨er, hp2, rfl, hg2⟩)
      · have hp2 := Lib.hid hp2
        have HR2 := Lib.hid hR2; have HG2 := Lib.hid hg2; clear hR2 hg2
        simp only [eNum]
        go_wp2
        refine bodyPost_ret (v := .tuple #[_, _]) (by simp (maxDischargeDepth := 8) [results, Tryz.results95, go_sem]; exact ⟨rfl, rfl⟩) rfl ?_
        refine .inl ⟨(x, true), j + m, pHad_yes (Hid.out ‹Hid (pYes _ = _)›) (by rw [List.drop_drop]; exact Hid.out ‹Hid (pNum _ = _)›), by omega, rfl, ?_, HG.out.trans HG2.out⟩
        rw [← Nat.add_assoc]; exact HR2.out
      · have hp2 := Lib.hid hp2
        have HG2 := Lib.hid hg2; clear hg2
        go_wp2
        exact ⟨rfl, .inr ⟨er, pHad_yes_bad (Hid.out ‹Hid (pYes _ = _)›) (by rw [List.drop_drop]; exact Hid.out ‹Hid (pNum _ = _)›), rfl, HG.out.trans HG2.out⟩⟩
  · have hp := Lib.hid hp
    have HG := Lib.hid hg; clear hg
    go_wp2
    exact ⟨rfl, .inr ⟨er, pHad_bad (Hid.out ‹Hid (pYes _ = _)›), rfl, HG.out⟩⟩

set_option maxRecDepth 100000 in
set_option maxHeartbeats 4000000 in
theorem hadLong  (hR : RB w R A n cap k) (hB : Bs w A n xs) (hc : n ≤ cap) (hk : k ≤ n) :
    Calls Tryz.prog 98 #[.pointer (some ⟨R, 0, none⟩), .func (.func 99) #[.pointer (some ⟨R, 0, none⟩)] #[]] w (RdPost (pHad pLong 0) (eHad eLong) R A n cap k xs w) := by
  have HR := Lib.hid hR; have HB := Lib.hid hB
  have hRs := hR.lt
  clear hR hB
  go_enter Tryz.func98, Tryz.ntmps98
  go_wp2_with fail
  refine (yes_any HR.out HB.out hc hk).mono ?_
  rintro e w1 (⟨v, j, hp, hl, rfl, hR', hg⟩ | ⟨er, hp, rfl, hg⟩)
  · have hp := Lib.hid hp
    cases v
    · simp only [eYes]
      have HR' := Lib.hid hR'; have HG := Lib.hid hg; clear hR' hg
      go_wp2
      refine bodyPost_ret (v := .tuple #[_, _]) (by simp (maxDischargeDepth := 8) [results, Tryz.results98, go_sem]; exact ⟨rfl, rfl⟩) rfl ?_
      exact .inl ⟨(0, false), j, pHad_no (Hid.out ‹Hid (pYes _ = _)›), hl, rfl, HR'.out, HG.out⟩
    · simp only [eYes]
      have HR' := Lib.hid hR'; have HG := Lib.hid hg; clear hR' hg
      go_wp2_with fail
      refine (long_any HR'.out (HB.out.turn HR.out HG.out) hc hl).mono ?_
      rintro e w2 (⟨x, m, hp2, hl2, rfl, hR2, hg2⟩ | ⟨er, hp2, rfl, hg2⟩)
      · have hp2 := Lib.hid hp2
        have HR2 := Lib.hid hR2; have HG2 := Lib.hid hg2; clear hR2 hg2
        simp only [eLong]
        go_wp2
        refine bodyPost_ret (v := .tuple #[_, _]) (by simp (maxDischargeDepth := 8) [results, Tryz.results98, go_sem]; exact ⟨rfl, rfl⟩) rfl ?_
        refine .inl ⟨(x, true), j + m, pHad_yes (Hid.out ‹Hid (pYes _ = _)›) (by rw [List.drop_drop]; exact Hid.out ‹Hid (pLong _ = _)›), by omega, rfl, ?_, HG.out.trans HG2.out⟩
        rw [← Nat.add_assoc]; exact HR2.out
      · have hp2 := Lib.hid hp2
        have HG2 := Lib.hid hg2; clear hg2
        go_wp2
        exact ⟨rfl, .inr ⟨er, pHad_yes_bad (Hid.out ‹Hid (pYes _ = _)›) (by rw [List.drop_drop]; exact Hid.out ‹Hid (pLong _ = _)›), rfl, HG.out.trans HG2.out⟩⟩
  · have hp := Lib.hid hp
    have HG := Lib.hid hg; clear hg
    go_wp2
    exact ⟨rfl, .inr ⟨er, pHad_bad (Hid.out ‹Hid (pYes _ = _)›), rfl, HG.out⟩⟩

set_option maxRecDepth 100000 in
set_option maxHeartbeats 4000000 in
theorem hadMode {P : Nat} (hP : w.cell? ⟨P, 0, none⟩ = some (.pointer (some ⟨R, 0, none⟩))) (hPR : ¬ P = R) (hPs : P < w.heap.size) (hR : RB w R A n cap k) (hB : Bs w A n xs) (hc : n ≤ cap) (hk : k ≤ n) :
    Calls Tryz.prog 95 #[.pointer (some ⟨R, 0, none⟩), .func (.func 96) #[] #[.pointer (some ⟨P, 0, none⟩)]] w (RdPost (pHad pMode 0) (eHad eNum) R A n cap k xs w) := by
  have HR := Lib.hid hR; have HB := Lib.hid hB
  have hRs := hR.lt
  clear hR hB
  go_enter Tryz.func95, Tryz.ntmps95
  go_wp2_with fail
  refine (yes_any HR.out HB.out hc hk).mono ?_
  rintro e w1 (⟨v, j, hp, hl, rfl, hR', hg⟩ | ⟨er, hp, rfl, hg⟩)
  · have hp := Lib.hid hp
    cases v
    · simp only [eYes]
      have HR' := Lib.hid hR'; have HG := Lib.hid hg; clear hR' hg
      go_wp2
      refine bodyPost_ret (v := .tuple #[_, _]) (by simp (maxDischargeDepth := 8) [results, Tryz.results95, go_sem]; exact ⟨rfl, rfl⟩) rfl ?_
      exact .inl ⟨(0, false), j, pHad_no (Hid.out ‹Hid (pYes _ = _)›), hl, rfl, HR'.out, HG.out⟩
    · simp only [eYes]
      have HR' := Lib.hid hR'; have HG := Lib.hid hg; have hP' := ((gcell hg).1 P 0 hPs hPR).trans hP; clear hP; clear hR' hg
      go_wp2_with fail
      refine (mode_any hP' HR'.out (HB.out.turn HR.out HG.out) hc hl).mono ?_
      rintro e w2 (⟨x, m, hp2, hl2, rfl, hR2, hg2⟩ | ⟨er, hp2, rfl, hg2⟩)
      · have hp2 := Lib.hid hp2
        have HR2 := Lib.hid hR2; have HG2 := Lib.hid hg2; clear hR2 hg2
        simp only [eNum]
        go_wp2
        refine bodyPost_ret (v := .tuple #[_, _]) (by simp (maxDischargeDepth := 8) [results, Tryz.results95, go_sem]; exact ⟨rfl, rfl⟩) rfl ?_
        refine .inl ⟨(x, true), j + m, pHad_yes (Hid.out ‹Hid (pYes _ = _)›) (by rw [List.drop_drop]; exact Hid.out ‹Hid (pMode _ = _)›), by omega, rfl, ?_, HG.out.trans HG2.out⟩
        rw [← Nat.add_assoc]; exact HR2.out
      · have hp2 := Lib.hid hp2
        have HG2 := Lib.hid hg2; clear hg2
        go_wp2
        exact ⟨rfl, .inr ⟨er, pHad_yes_bad (Hid.out ‹Hid (pYes _ = _)›) (by rw [List.drop_drop]; exact Hid.out ‹Hid (pMode _ = _)›), rfl, HG.out.trans HG2.out⟩⟩
  · have hp := Lib.hid hp
    have HG := Lib.hid hg; clear hg
    go_wp2
    exact ⟨rfl, .inr ⟨er, pHad_bad (Hid.out ‹Hid (pYes _ = _)›), rfl, HG.out⟩⟩
end
end Go.Proofs.YtgmhapjidbdhnaaGreat
namespace Go.Proofs.YtgmhapjidbdhnaaGreat
open Go.RowKit
section
variable {R : Nat} {A : Option Addr} {n cap k : Nat} {xs : List UInt8} {w : World}
theorem RB.drew (h : RB w R A n cap k) : RB w.drew R A n cap k := h
theorem pHow_big {b : List UInt8} {h j : Nat} (e : pNum b = .ok (h, j)) (hm : ¬ h ≤ 2) : pHow b = .error 5 := by
  rw [pHow, Ps.bind_ok e]; simp [Ps.bind, Ps.need, hm]
theorem pHow_no {b : List UInt8} {h j : Nat} (e : pNum b = .ok (h, j)) (hm : h ≤ 2) (h2 : ¬ h = 2) : pHow b = .ok ((h, ⟨0, 0⟩), j) := by
  rw [pHow, Ps.bind_ok e]; simp [Ps.bind, Ps.need, hm, h2, Ps.pure]
theorem pHow_to {b : List UInt8} {j m : Nat} {t : Tm} (e : pNum b = .ok (2, j)) (h : pTime (b.drop j) = .ok (t, m)) : pHow b = .ok ((2, t), j + m) := by
  rw [pHow, Ps.bind_ok e]; simp [Ps.bind, Ps.need, Ps.pure, h]
theorem pHow_to_bad {b : List UInt8} {j : Nat} {er : Int} (e : pNum b = .ok (2, j)) (h : pTime (b.drop j) = .error er) : pHow b = .error er := by
  rw [pHow, Ps.bind_ok e]; simp [Ps.bind, Ps.need, h]
def eHow (x : Nat × Tm) : Value := .tuple #[.int .u32 x.1, eTime x.2]
set_option maxRecDepth 100000 in
set_option maxHeartbeats 4000000 in
theorem how_any (hR : RB w R A n cap k) (hB : Bs w A n xs) (hc : n ≤ cap) (hk : k ≤ n) :
    Calls Tryz.prog 100 #[.pointer (some ⟨R, 0, none⟩)] w (RdPost pHow eHow R A n cap k xs w) := by
  have HR := Lib.hid hR; have HB := Lib.hid hB
  have hRs := hR.lt
  have hne : ¬ w.heap.size = R := by omega
  clear hR hB
  go_enter Tryz.func100, Tryz.ntmps100
  go_wp2_with fail
  refine (number_any (HR.out.alloc _) (HB.out.alloc _) hc hk).mono ?_
  rintro e w1 (⟨v, j, hp, hl, rfl, hR', hg⟩ | ⟨er, hp, rfl, hg⟩)
  · obtain ⟨hcx, hfx⟩ := gcell hg
    have hzx := hg.size; simp at hzx
    have hzy : w.heap.size < w1.heap.size := by omega
    have HB1 := Lib.hid ((HB.out.alloc (.cells #[.int .u32 0, .int .u32 0] 28)).turn (HR.out.alloc (.cells #[.int .u32 0, .int .u32 0] 28)) hg)
    have HG := Lib.hid (gb_alloc_then hg)
    have HR' := Lib.hid hR'; clear hR' hg
    simp only [eNum]
    by_cases hm : v ≤ 2
    · have hd : decide ((v : Int) ≤ 2) = true := by simp; omega
      by_cases h2 : v = 2
      · subst h2
        have hp := Lib.hid hp
        go_wp2_with (first | (go_at_call 31; refine Calls.mono (must_yes _ _) ?_; rintro e w' ⟨rfl, rfl⟩) | (go_at_call 118; refine Calls.mono (time_any HR'.out HB1.out hc hl) ?_; rintro e w2 (⟨t, m, hp2, hl2, rfl, hR2, hg2⟩ | ⟨er, hp2, rfl, hg2⟩); (obtain ⟨hcy, hfy⟩ := gcell hg2); (have hzz := hg2.size); (have hzw : w.heap.size < w2.heap.size := (by omega)); (have hp2 := Lib.hid hp2); (have HR2 := Lib.hid hR2); (have HG2 := Lib.hid hg2); clear hR2 hg2; simp only [eTime]; rotate_left; (have hp2 := Lib.hid hp2); (have HG2 := Lib.hid hg2); clear hg2; rotate_left))
        · have hR1 := HR2.out
          have hG1 := HG.out.trans HG2.out
          rw [Nat.add_assoc] at hR1
          go_region
          all_goals (try go_wp2)
          all_goals
            refine bodyPost_ret (v := .tuple #[.int .u32 2, .agg #[.int .u32 t.sec, .int .u32 t.nano]]) (by simp (maxDischargeDepth := 8) [results, Tryz.results100, go_sem, *]) rfl ?_
            refine .inl ⟨(2, t), j + m, pHow_to (Hid.out ‹Hid (pNum _ = _)›) (by rw [List.drop_drop]; exact Hid.out ‹Hid (pTime _ = _)›), by omega, rfl, by (with_reducible (repeat' (first | assumption | apply RB.other | apply RB.alloc | apply RB.drewN | apply RB.drew))) <;> (first | done | (simp; done) | (simp; omega) | omega), by (with_reducible (repeat' (first | exact World.grownBy.refl _ _ | assumption | apply gb_alloc | apply gb_drewN | apply gb_drew | apply gb_setR | refine gb_set ?_ ?_ _))) <;> (first | done | (simp; done) | (simp; omega) | omega)⟩
        · exact ⟨rfl, .inr ⟨er, pHow_to_bad (Hid.out ‹Hid (pNum _ = _)›) (by rw [List.drop_drop]; exact Hid.out ‹Hid (pTime _ = _)›), rfl, HG.out.trans HG2.out⟩⟩
      · have hb : ((v : Int) == 2) = false := beq_eq_false_iff_ne.2 (by omega)
        have hp := Lib.hid hp
        have hR1 := HR'.out
        have hG1 := HG.out
        go_wp2_with (go_at_call 31; refine Calls.mono (must_yes _ _) ?_; rintro e w' ⟨rfl, rfl⟩)
        go_region
        all_goals (try go_wp2)
        all_goals
         refine bodyPost_ret (v := .tuple #[.int .u32 v, .agg #[.int .u32 0, .int .u32 0]]) (by simp (maxDischargeDepth := 8) [results, Tryz.results100, go_sem, *]) rfl ?_
         refine .inl ⟨(v, ⟨0, 0⟩), j, pHow_no (Hid.out ‹Hid (pNum _ = _)›) hm h2, hl, rfl, by (with_reducible (repeat' (first | assumption | apply RB.other | apply RB.alloc | apply RB.drewN | apply RB.drew))) <;> (first | done | (simp; done) | (simp; omega) | omega), by (with_reducible (repeat' (first | exact World.grownBy.refl _ _ | assumption | apply gb_alloc | apply gb_drewN | apply gb_drew | apply gb_setR | refine gb_set ?_ ?_ _))) <;> (first | done | (simp; done) | (simp; omega) | omega)⟩
    · have hd : decide ((v : Int) ≤ 2) = false := by simp; omega
      have hp := Lib.hid hp
      go_wp2_with (go_at_call 31; refine Calls.mono (must_no _ _) ?_; rintro e w' ⟨rfl, rfl⟩)
      exact ⟨rfl, .inr ⟨5, pHow_big (Hid.out ‹Hid (pNum _ = _)›) hm, rfl, HG.out⟩⟩
  · have hp := Lib.hid hp
    have HG := Lib.hid (gb_alloc_then hg); clear hg
    go_wp2
    exact ⟨rfl, .inr ⟨er, Ps.bind_error (Hid.out ‹Hid (pNum _ = _)›), rfl, HG.out⟩⟩
end
end Go.Proofs.YtgmhapjidbdhnaaGreat
namespace Go.Proofs.YtgmhapjidbdhnaaGreat
open Go.RowKit
theorem below_grown {m R : Nat} {w a b : World} (h : Below m w a) (hg : a.grownBy b (some R)) (hm : m ≤ w.heap.size) (hR : m ≤ R) : Below m w b :=
  ⟨hg.os.trans h.os, hg.tape.trans h.tape, hg.output.trans h.output, Nat.le_trans h.size hg.size, fun i hi => (hg.block i (Nat.lt_of_lt_of_le hi (by have := h.size; omega)) (by simp; omega)).trans (h.block i hi)⟩
/-- What a Get comes to. -/
def GetPost {α : Type} (p : Ps α) (enc : α → Value) (z : α) (n : Nat) (xs : List UInt8) (w : World) (e : Ending) (w' : World) : Prop :=
  Below w.heap.size w w' ∧ ((∃ v k, p xs = .ok (v, k) ∧ k ≤ n ∧ e = .returned (.tuple #[enc v, .int .i64 k, .int .i64 0])) ∨
  (∃ er, p xs = .error er ∧ e = .returned (.tuple #[enc z, .int .i64 0, .int .i64 er])))
section
variable {A : Option Addr} {n cap : Nat} {xs : List UInt8} {w : World}
theorem RB.new {R : Nat} (h : R = w.heap.size) : RB (w.alloc (.cells #[.slice A n cap, .int .i64 0] 149)) R A n cap 0 := by
  subst h; unfold RB World.alloc; simp

end
end Go.Proofs.YtgmhapjidbdhnaaGreat
namespace Go.Proofs.YtgmhapjidbdhnaaGreat
open Go.RowKit
/-- What a Put comes to. -/
def PutPost (r : Except Int (List UInt8)) (w : World) (e : Ending) (w' : World) : Prop :=
  Below w.heap.size w w' ∧ ((∃ bs v, r = .ok bs ∧ e = .returned (.tuple #[v, .int .i64 0]) ∧ OwnB w' w.heap.size v bs) ∨ (∃ er, r = .error er ∧ e = .returned (.tuple #[.slice none 0 0, .int .i64 er])))
theorem OwnB.set {w : World} {base : Nat} {v : Value} {bs : List UInt8} (h : OwnB w base v bs) {p : Addr} (hp : p.block < base) (u : Value) : OwnB (w.setCell p u) base v bs := by
  unfold OwnB at h ⊢
  rcases h.2 with hn | ⟨g, cap, cur, hv, hb, hh, hr⟩
  · exact ⟨h.1, .inl hn⟩
  · exact ⟨h.1, .inr ⟨g, cap, cur, hv, hb, (Below.heap_setCell _ _ _ _ (by omega)).trans hh, hr⟩⟩
end Go.Proofs.YtgmhapjidbdhnaaGreat
namespace Go.Proofs.YtgmhapjidbdhnaaGreat
open Go.RowKit
/-- What follows, or a panic of which F speaks, in a frame whose first results are as they were. -/
def KQ (K : Act → World → Prop) (F : List PanicEntry → World → Prop) (D : List Deferred) (x p : Value) : Exit → Act → World → Prop
  | .normal, a, w => K a w
  | .panic c, a, w => F c w ∧ a.defers = D ∧ a.tmps[2]? = some x ∧ a.tmps[3]? = some p
  | _, _, _ => False
theorem KQ.put {K : Act → World → Prop} {F : List PanicEntry → World → Prop} {D : List Deferred} {x p v : Value} {c : List PanicEntry} {a : Act} {w : World} {d : Nat} (h : KQ K F D x p (.panic c) (a.put (some (d + 4)) v) w) : KQ K F D x p (.panic c) a w := by
  obtain ⟨h1, h2, h3, h4⟩ := h
  refine ⟨h1, h2, ?_, ?_⟩
  · simpa [Act.put] using h3
  · simpa [Act.put] using h4
instance {K : Act → World → Prop} {F : List PanicEntry → World → Prop} {D : List Deferred} {x p v : Value} {c : List PanicEntry} {a : Act} {w : World} {d : Nat} (h : KQ K F D x p (.panic c) (a.put (some (d + 4)) v) w) : CoeT (KQ K F D x p (.panic c) (a.put (some (d + 4)) v) w) h (KQ K F D x p (.panic c) a w) := ⟨h.put⟩
theorem keep_alloc {w1 : World} {b c : Nat} {l : List Value} {x : Value} (ob : Obj) (h0 : ∀ o, w1.cell? ⟨b, o, none⟩ = l[o]?) (h1 : w1.cell? ⟨c, 0, none⟩ = some x) (h2 : w1.frozen? ⟨c, 0, none⟩ = false) (hb : b < w1.heap.size) (hc : c < w1.heap.size) :
    (∀ o, (w1.alloc ob).cell? ⟨b, o, none⟩ = l[o]?) ∧ (w1.alloc ob).cell? ⟨c, 0, none⟩ = some x ∧ (w1.alloc ob).frozen? ⟨c, 0, none⟩ = false :=
  ⟨fun o => (World.cell?_of_block (a := ⟨b, o, none⟩) (Below.heap_alloc _ _ _ hb)).trans (h0 o), (World.cell?_of_block (a := ⟨c, 0, none⟩) (Below.heap_alloc _ _ _ hc)).trans h1, (World.frozen?_of_block (a := ⟨c, 0, none⟩) (Below.heap_alloc _ _ _ hc)).trans h2⟩
theorem keep_set {w1 : World} {b c : Nat} {l : List Value} {x : Value} (h0 : ∀ o, w1.cell? ⟨b, o, none⟩ = l[o]?) (h1 : w1.cell? ⟨c, 0, none⟩ = some x) (h2 : w1.frozen? ⟨c, 0, none⟩ = false) (hne : ¬ b = c) :
    (∀ o, (w1.setCell ⟨c, 0, none⟩ x).cell? ⟨b, o, none⟩ = l[o]?) ∧ (w1.setCell ⟨c, 0, none⟩ x).cell? ⟨c, 0, none⟩ = some x ∧ (w1.setCell ⟨c, 0, none⟩ x).frozen? ⟨c, 0, none⟩ = false :=
  ⟨fun o => (World.cell?_of_block (a := ⟨b, o, none⟩) (Below.heap_setCell _ _ _ _ hne)).trans (h0 o), by simp [go_sem, h1], by simp [go_sem, h2]⟩
end Go.Proofs.YtgmhapjidbdhnaaGreat

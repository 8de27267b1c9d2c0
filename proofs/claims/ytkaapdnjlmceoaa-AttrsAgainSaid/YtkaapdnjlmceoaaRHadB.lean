/- attrs: what is, next, if it is: of the kinds that are. Printed by gen_had.py. -/
import Derived.Test.YtkaapdnjlmceoaaRHad
set_option linter.unusedVariables false
set_option linter.unusedSimpArgs false
namespace Go.Proofs.Ytkaapdnjlmceoaa
open Go.RowKit
section
variable {R : Nat} {A : Option Addr} {n cap k : Nat} {xs : List UInt8} {w : World}
theorem pHad_no {α : Type} {p : Ps α} {z : α} {b : List UInt8} {j : Nat} (h : pYes b = .ok (false, j)) : pHad p z b = .ok ((z, false), j) := by
  rw [pHad, Ps.bind_ok h]; rfl
theorem pHad_yes {α : Type} {p : Ps α} {z x : α} {b : List UInt8} {j m : Nat} (h : pYes b = .ok (true, j)) (h' : p (b.drop j) = .ok (x, m)) : pHad p z b = .ok ((x, true), j + m) := by
  rw [pHad, Ps.bind_ok h]; simp [Ps.bind, h', Ps.pure]
theorem pHad_yes_bad {α : Type} {p : Ps α} {z : α} {b : List UInt8} {j : Nat} {er : Int} (h : pYes b = .ok (true, j)) (h' : p (b.drop j) = .error er) : pHad p z b = .error er := by
  rw [pHad, Ps.bind_ok h]; simp [Ps.bind, h']
theorem pHad_bad {α : Type} {p : Ps α} {z : α} {b : List UInt8} {er : Int} (h : pYes b = .error er) : pHad p z b = .error er := Ps.bind_error h
def eHad {α : Type} (enc : α → Value) (x : α × Bool) : Value := .tuple #[enc x.1, .bool x.2]

set_option maxRecDepth 100000 in
set_option maxHeartbeats 4000000 in
theorem mode_any {P : Nat} (hP : w.cell? ⟨P, 0, none⟩ = some (.pointer (some ⟨R, 0, none⟩))) (hR : RB w R A n cap k) (hB : Bs w A n xs) (hc : n ≤ cap) (hk : k ≤ n) :
    Calls Try.prog 36 #[.pointer (some ⟨P, 0, none⟩)] w (RdPost pMode eNum R A n cap k xs w) := by
  have HR := Lib.hid hR; have HB := Lib.hid hB
  have hRs := hR.lt
  clear hR hB
  go_enter Try.func36, Try.ntmps36
  go_wp2_with fail
  refine (number_any HR.out HB.out hc hk).mono ?_
  rintro e w1 (⟨v, j, hp, hl, rfl, hR', hg⟩ | ⟨er, hp, rfl, hg⟩)
  · have HR' := Lib.hid hR'; have HG := Lib.hid hg; clear hR' hg
    simp only [eNum]
    by_cases hm : v ≤ 4095
    · have hd : decide ((v : Int) ≤ 4095) = true := by simp; omega
      have hp : Hid (pMode (xs.drop k) = .ok (v, j)) := by rw [Hid, pMode, Ps.bind_ok hp]; simp [Ps.bind, Ps.need, Ps.pure, hm]
      go_wp2_with (go_at_call 38; refine Calls.mono (must_yes _ _) ?_; rintro e w' ⟨rfl, rfl⟩)
      go_ret
      exact .inl ⟨v, j, Hid.out ‹Hid (pMode _ = _)›, hl, rfl, HR'.out, HG.out⟩
    · have hd : decide ((v : Int) ≤ 4095) = false := by simp; omega
      have hp : Hid (pMode (xs.drop k) = .error 5) := by rw [Hid, pMode, Ps.bind_ok hp]; simp [Ps.bind, Ps.need, hm]
      go_wp2_with (go_at_call 38; refine Calls.mono (must_no _ _) ?_; rintro e w' ⟨rfl, rfl⟩)
      exact ⟨rfl, .inr ⟨5, Hid.out ‹Hid (pMode _ = _)›, rfl, HG.out⟩⟩
  · have hp := Lib.hid hp
    have HG := Lib.hid hg; clear hg
    go_wp2
    exact ⟨rfl, .inr ⟨er, Ps.bind_error (Hid.out ‹Hid (pNum _ = _)›), rfl, HG.out⟩⟩

set_option maxRecDepth 100000 in
set_option maxHeartbeats 4000000 in
theorem hadNum  (hR : RB w R A n cap k) (hB : Bs w A n xs) (hc : n ≤ cap) (hk : k ≤ n) :
    Calls Try.prog 35 #[.pointer (some ⟨R, 0, none⟩), .func (.func 37) #[.pointer (some ⟨R, 0, none⟩)] #[]] w (RdPost (pHad pNum 0) (eHad eNum) R A n cap k xs w) := by
  have HR := Lib.hid hR; have HB := Lib.hid hB
  have hRs := hR.lt
  clear hR hB
  go_enter Try.func35, Try.ntmps35
  go_wp2_with fail
  refine (yes_any HR.out HB.out hc hk).mono ?_
  rintro e w1 (⟨v, j, hp, hl, rfl, hR', hg⟩ | ⟨er, hp, rfl, hg⟩)
  · have hp := Lib.hid hp
    cases v
    · simp only [eYes]
      have HR' := Lib.hid hR'; have HG := Lib.hid hg; clear hR' hg
      go_wp2
      refine bodyPost_ret (v := .tuple #[_, _]) (by simp (maxDischargeDepth := 8) [results, Try.results35, go_sem]; exact ⟨rfl, rfl⟩) rfl ?_
      exact .inl ⟨(0, false), j, pHad_no (Hid.out ‹Hid (pYes _ = _)›), hl, rfl, HR'.out, HG.out⟩
    · simp only [eYes]
      have HR' := Lib.hid hR'; have HG := Lib.hid hg; clear hR' hg
      go_wp2_with fail
      refine (number_any HR'.out (HB.out.turn HR.out HG.out) hc hl).mono ?_
      rintro e w2 (⟨x, m, hp2, hl2, rfl, hR2, hg2⟩ | ⟨er, hp2, rfl, hg2⟩)
      · have hp2 := Lib.hid hp2
        have HR2 := Lib.hid hR2; have HG2 := Lib.hid hg2; clear hR2 hg2
        simp only [eNum]
        go_wp2
        refine bodyPost_ret (v := .tuple #[_, _]) (by simp (maxDischargeDepth := 8) [results, Try.results35, go_sem]; exact ⟨rfl, rfl⟩) rfl ?_
        refine .inl ⟨(x, true), j + m, pHad_yes (Hid.out ‹Hid (pYes _ = _)›) (by rw [List.drop_drop]; exact Hid.out ‹Hid (pNum _ = _)›), by omega, rfl, ?_, HG.out.trans HG2.out⟩
        rw [← Nat.add_assoc]; exact HR2.out
      · have hp2 := Lib.hid hp2
        have HG2 := Lib.hid hg2; clear hg2
        go_wp2
        exact ⟨rfl, .inr ⟨er, pHad_yes_bad (Hid.out ‹Hid (pYes _ = _)›) (by rw [List.drop_drop]; exact Hid.out ‹Hid (pNum _ = _)›), rfl, HG.out.trans HG2.out⟩⟩
  · have hp := Lib.hid hp
    have HG := Lib.hid hg; clear hg
    go_wp2
    exact ⟨rfl, .inr ⟨er, pHad_bad (Hid.out ‹Hid (pYes _ = _)›), rfl, HG.out⟩⟩

set_option maxRecDepth 100000 in
set_option maxHeartbeats 4000000 in
theorem hadLong  (hR : RB w R A n cap k) (hB : Bs w A n xs) (hc : n ≤ cap) (hk : k ≤ n) :
    Calls Try.prog 39 #[.pointer (some ⟨R, 0, none⟩), .func (.func 40) #[.pointer (some ⟨R, 0, none⟩)] #[]] w (RdPost (pHad pLong 0) (eHad eLong) R A n cap k xs w) := by
  have HR := Lib.hid hR; have HB := Lib.hid hB
  have hRs := hR.lt
  clear hR hB
  go_enter Try.func39, Try.ntmps39
  go_wp2_with fail
  refine (yes_any HR.out HB.out hc hk).mono ?_
  rintro e w1 (⟨v, j, hp, hl, rfl, hR', hg⟩ | ⟨er, hp, rfl, hg⟩)
  · have hp := Lib.hid hp
    cases v
    · simp only [eYes]
      have HR' := Lib.hid hR'; have HG := Lib.hid hg; clear hR' hg
      go_wp2
      refine bodyPost_ret (v := .tuple #[_, _]) (by simp (maxDischargeDepth := 8) [results, Try.results39, go_sem]; exact ⟨rfl, rfl⟩) rfl ?_
      exact .inl ⟨(0, false), j, pHad_no (Hid.out ‹Hid (pYes _ = _)›), hl, rfl, HR'.out, HG.out⟩
    · simp only [eYes]
      have HR' := Lib.hid hR'; have HG := Lib.hid hg; clear hR' hg
      go_wp2_with fail
      refine (long_any HR'.out (HB.out.turn HR.out HG.out) hc hl).mono ?_
      rintro e w2 (⟨x, m, hp2, hl2, rfl, hR2, hg2⟩ | ⟨er, hp2, rfl, hg2⟩)
      · have hp2 := Lib.hid hp2
        have HR2 := Lib.hid hR2; have HG2 := Lib.hid hg2; clear hR2 hg2
        simp only [eLong]
        go_wp2
        refine bodyPost_ret (v := .tuple #[_, _]) (by simp (maxDischargeDepth := 8) [results, Try.results39, go_sem]; exact ⟨rfl, rfl⟩) rfl ?_
        refine .inl ⟨(x, true), j + m, pHad_yes (Hid.out ‹Hid (pYes _ = _)›) (by rw [List.drop_drop]; exact Hid.out ‹Hid (pLong _ = _)›), by omega, rfl, ?_, HG.out.trans HG2.out⟩
        rw [← Nat.add_assoc]; exact HR2.out
      · have hp2 := Lib.hid hp2
        have HG2 := Lib.hid hg2; clear hg2
        go_wp2
        exact ⟨rfl, .inr ⟨er, pHad_yes_bad (Hid.out ‹Hid (pYes _ = _)›) (by rw [List.drop_drop]; exact Hid.out ‹Hid (pLong _ = _)›), rfl, HG.out.trans HG2.out⟩⟩
  · have hp := Lib.hid hp
    have HG := Lib.hid hg; clear hg
    go_wp2
    exact ⟨rfl, .inr ⟨er, pHad_bad (Hid.out ‹Hid (pYes _ = _)›), rfl, HG.out⟩⟩

set_option maxRecDepth 100000 in
set_option maxHeartbeats 4000000 in
theorem hadMode {P : Nat} (hP : w.cell? ⟨P, 0, none⟩ = some (.pointer (some ⟨R, 0, none⟩))) (hPR : ¬ P = R) (hPs : P < w.heap.size) (hR : RB w R A n cap k) (hB : Bs w A n xs) (hc : n ≤ cap) (hk : k ≤ n) :
    Calls Try.prog 35 #[.pointer (some ⟨R, 0, none⟩), .func (.func 36) #[] #[.pointer (some ⟨P, 0, none⟩)]] w (RdPost (pHad pMode 0) (eHad eNum) R A n cap k xs w) := by
  have HR := Lib.hid hR; have HB := Lib.hid hB
  have hRs := hR.lt
  clear hR hB
  go_enter Try.func35, Try.ntmps35
  go_wp2_with fail
  refine (yes_any HR.out HB.out hc hk).mono ?_
  rintro e w1 (⟨v, j, hp, hl, rfl, hR', hg⟩ | ⟨er, hp, rfl, hg⟩)
  · have hp := Lib.hid hp
    cases v
    · simp only [eYes]
      have HR' := Lib.hid hR'; have HG := Lib.hid hg; clear hR' hg
      go_wp2
      refine bodyPost_ret (v := .tuple #[_, _]) (by simp (maxDischargeDepth := 8) [results, Try.results35, go_sem]; exact ⟨rfl, rfl⟩) rfl ?_
      exact .inl ⟨(0, false), j, pHad_no (Hid.out ‹Hid (pYes _ = _)›), hl, rfl, HR'.out, HG.out⟩
    · simp only [eYes]
      have HR' := Lib.hid hR'; have HG := Lib.hid hg; have hP' := ((gcell hg).1 P 0 hPs hPR).trans hP; clear hP; clear hR' hg
      go_wp2_with fail
      refine (mode_any hP' HR'.out (HB.out.turn HR.out HG.out) hc hl).mono ?_
      rintro e w2 (⟨x, m, hp2, hl2, rfl, hR2, hg2⟩ | ⟨er, hp2, rfl, hg2⟩)
      · have hp2 := Lib.hid hp2
        have HR2 := Lib.hid hR2; have HG2 := Lib.hid hg2; clear hR2 hg2
        simp only [eNum]
        go_wp2
        refine bodyPost_ret (v := .tuple #[_, _]) (by simp (maxDischargeDepth := 8) [results, Try.results35, go_sem]; exact ⟨rfl, rfl⟩) rfl ?_
        refine .inl ⟨(x, true), j + m, pHad_yes (Hid.out ‹Hid (pYes _ = _)›) (by rw [List.drop_drop]; exact Hid.out ‹Hid (pMode _ = _)›), by omega, rfl, ?_, HG.out.trans HG2.out⟩
        rw [← Nat.add_assoc]; exact HR2.out
      · have hp2 := Lib.hid hp2
        have HG2 := Lib.hid hg2; clear hg2
        go_wp2
        exact ⟨rfl, .inr ⟨er, pHad_yes_bad (Hid.out ‹Hid (pYes _ = _)›) (by rw [List.drop_drop]; exact Hid.out ‹Hid (pMode _ = _)›), rfl, HG.out.trans HG2.out⟩⟩
  · have hp := Lib.hid hp
    have HG := Lib.hid hg; clear hg
    go_wp2
    exact ⟨rfl, .inr ⟨er, pHad_bad (Hid.out ‹Hid (pYes _ = _)›), rfl, HG.out⟩⟩
end
end Go.Proofs.Ytkaapdnjlmceoaa

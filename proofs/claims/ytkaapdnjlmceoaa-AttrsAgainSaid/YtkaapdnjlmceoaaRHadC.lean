/- attrs: how a time is set, next; what is told of a node, next, if it is. -/
import Derived.Test.YtkaapdnjlmceoaaRHadB
set_option linter.unusedVariables false
set_option linter.unusedSimpArgs false
namespace Go.Proofs.Ytkaapdnjlmceoaa
open Go.RowKit
section
variable {R : Nat} {A : Option Addr} {n cap k : Nat} {xs : List UInt8} {w : World}
theorem RB.drew (h : RB w R A n cap k) : RB w.drew R A n cap k := h
set_option maxRecDepth 100000 in
set_option maxHeartbeats 4000000 in
theorem hadAttrs (hR : RB w R A n cap k) (hB : Bs w A n xs) (hc : n ≤ cap) (hk : k ≤ n) :
    Calls Try.prog 45 #[.pointer (some ⟨R, 0, none⟩), .func (.func 30) #[.pointer (some ⟨R, 0, none⟩)] #[]] w (RdPost (pHad pAttrs At.zero) (eHad eAttrs) R A n cap k xs w) := by
  have HR := Lib.hid hR; have HB := Lib.hid hB
  have hRs := hR.lt
  have hne : ¬ w.heap.size = R := by omega
  clear hR hB
  go_enter Try.func45, Try.ntmps45
  go_wp2_with fail
  refine (yes_any (HR.out.alloc _) (HB.out.alloc _) hc hk).mono ?_
  rintro e w1 (⟨v, j, hp, hl, rfl, hR', hg⟩ | ⟨er, hp, rfl, hg⟩)
  · have hp := Lib.hid hp
    obtain ⟨hcx, hfx⟩ := gcell hg
    have hzx := hg.size; simp at hzx
    have hzy : w.heap.size < w1.heap.size := by omega
    have HB1 := Lib.hid ((HB.out.alloc (.cells At.zero.cells 31)).turn (HR.out.alloc (.cells At.zero.cells 31)) hg)
    have HG := Lib.hid (gb_alloc_then hg)
    have HR' := Lib.hid hR'; clear hR' hg
    cases v
    · simp only [eYes]
      have hR1 := HR'.out
      have hG1 := HG.out
      go_wp2
      refine bodyPost_ret (v := .tuple #[.agg At.zero.cells, .bool false]) (by simp (maxDischargeDepth := 8) [results, Try.results45, go_sem, At.cells, At.zero, *]) rfl ?_
      refine .inl ⟨(At.zero, false), j, pHad_no (Hid.out ‹Hid (pYes _ = _)›), hl, rfl, by (with_reducible (repeat' (first | assumption | apply RB.other | apply RB.alloc | apply RB.drewN | apply RB.drew))) <;> (first | done | (simp; done) | (simp; omega) | omega), by (with_reducible (repeat' (first | exact World.grownBy.refl _ _ | assumption | apply gb_alloc | apply gb_drewN | apply gb_drew | apply gb_setR | refine gb_set ?_ ?_ _))) <;> (first | done | (simp; done) | (simp; omega) | omega)⟩
    · simp only [eYes]
      go_wp2_with fail
      refine (attrs_any HR'.out HB1.out hc hl).mono ?_
      rintro e w2 (⟨x, m, hp2, hl2, rfl, hR2, hg2⟩ | ⟨er, hp2, rfl, hg2⟩)
      · have hp2 := Lib.hid hp2
        obtain ⟨hcy, hfy⟩ := gcell hg2
        have hzz := hg2.size
        have HR2 := Lib.hid hR2; have HG2 := Lib.hid hg2; clear hR2 hg2
        simp only [eAttrs, At.cells]
        have hR1 := HR2.out
        have hG1 := HG.out.trans HG2.out
        have hzw : w.heap.size < w2.heap.size := by omega
        go_wp2
        refine bodyPost_ret (v := .tuple #[.agg x.cells, .bool true]) (by simp (maxDischargeDepth := 8) [results, Try.results45, go_sem, At.cells, *]) rfl ?_
        rw [Nat.add_assoc] at hR1
        refine .inl ⟨(x, true), j + m, pHad_yes (Hid.out ‹Hid (pYes _ = _)›) (by rw [List.drop_drop]; exact Hid.out ‹Hid (pAttrs _ = _)›), by omega, rfl, by (with_reducible (repeat' (first | assumption | apply RB.other | apply RB.alloc | apply RB.drewN | apply RB.drew))) <;> (first | done | (simp; done) | (simp; omega) | omega), by (with_reducible (repeat' (first | exact World.grownBy.refl _ _ | assumption | apply gb_alloc | apply gb_drewN | apply gb_drew | apply gb_setR | refine gb_set ?_ ?_ _))) <;> (first | done | (simp; done) | (simp; omega) | omega)⟩
      · have hp2 := Lib.hid hp2
        have HG2 := Lib.hid hg2; clear hg2
        go_wp2
        exact ⟨rfl, .inr ⟨er, pHad_yes_bad (Hid.out ‹Hid (pYes _ = _)›) (by rw [List.drop_drop]; exact Hid.out ‹Hid (pAttrs _ = _)›), rfl, HG.out.trans HG2.out⟩⟩
  · have hp := Lib.hid hp
    have HG := Lib.hid (gb_alloc_then hg); clear hg
    go_wp2
    exact ⟨rfl, .inr ⟨er, pHad_bad (Hid.out ‹Hid (pYes _ = _)›), rfl, HG.out⟩⟩


theorem pHow_big {b : List UInt8} {h j : Nat} (e : pNum b = .ok (h, j)) (hm : ¬ h ≤ 2) : pHow b = .error 5 := by
  rw [pHow, Ps.bind_ok e]; simp [Ps.bind, Ps.need, hm]
theorem pHow_no {b : List UInt8} {h j : Nat} (e : pNum b = .ok (h, j)) (hm : h ≤ 2) (h2 : ¬ h = 2) : pHow b = .ok ((h, ⟨0, 0⟩), j) := by
  rw [pHow, Ps.bind_ok e]; simp [Ps.bind, Ps.need, hm, h2, Ps.pure]
theorem pHow_to {b : List UInt8} {j m : Nat} {t : Tm} (e : pNum b = .ok (2, j)) (h : pTime (b.drop j) = .ok (t, m)) : pHow b = .ok ((2, t), j + m) := by
  rw [pHow, Ps.bind_ok e]; simp [Ps.bind, Ps.need, Ps.pure, h]
theorem pHow_to_bad {b : List UInt8} {j : Nat} {er : Int} (e : pNum b = .ok (2, j)) (h : pTime (b.drop j) = .error er) : pHow b = .error er := by
  rw [pHow, Ps.bind_ok e]; simp [Ps.bind, Ps.need, h]
def eHow (x : Nat × Tm) : Value := .tuple #[.int .u32 x.1, eTime x.2]
set_option maxRecDepth 100000 in
set_option maxHeartbeats 4000000 in
theorem how_any (hR : RB w R A n cap k) (hB : Bs w A n xs) (hc : n ≤ cap) (hk : k ≤ n) :
    Calls Try.prog 41 #[.pointer (some ⟨R, 0, none⟩)] w (RdPost pHow eHow R A n cap k xs w) := by
  have HR := Lib.hid hR; have HB := Lib.hid hB
  have hRs := hR.lt
  have hne : ¬ w.heap.size = R := by omega
  clear hR hB
  go_enter Try.func41, Try.ntmps41
  go_wp2_with fail
  refine (number_any (HR.out.alloc _) (HB.out.alloc _) hc hk).mono ?_
  rintro e w1 (⟨v, j, hp, hl, rfl, hR', hg⟩ | ⟨er, hp, rfl, hg⟩)
  · obtain ⟨hcx, hfx⟩ := gcell hg
    have hzx := hg.size; simp at hzx
    have hzy : w.heap.size < w1.heap.size := by omega
    have HB1 := Lib.hid ((HB.out.alloc (.cells #[.int .u32 0, .int .u32 0] 29)).turn (HR.out.alloc (.cells #[.int .u32 0, .int .u32 0] 29)) hg)
    have HG := Lib.hid (gb_alloc_then hg)
    have HR' := Lib.hid hR'; clear hR' hg
    simp only [eNum]
    by_cases hm : v ≤ 2
    · have hd : decide ((v : Int) ≤ 2) = true := by simp; omega
      by_cases h2 : v = 2
      · subst h2
        have hp := Lib.hid hp
        go_wp2_with (first | (go_at_call 38; refine Calls.mono (must_yes _ _) ?_; rintro e w' ⟨rfl, rfl⟩) | (go_at_call 44; refine Calls.mono (time_any HR'.out HB1.out hc hl) ?_; rintro e w2 (⟨t, m, hp2, hl2, rfl, hR2, hg2⟩ | ⟨er, hp2, rfl, hg2⟩); (obtain ⟨hcy, hfy⟩ := gcell hg2); (have hzz := hg2.size); (have hzw : w.heap.size < w2.heap.size := (by omega)); (have hp2 := Lib.hid hp2); (have HR2 := Lib.hid hR2); (have HG2 := Lib.hid hg2); clear hR2 hg2; simp only [eTime]; rotate_left; (have hp2 := Lib.hid hp2); (have HG2 := Lib.hid hg2); clear hg2; rotate_left))
        · have hR1 := HR2.out
          have hG1 := HG.out.trans HG2.out
          rw [Nat.add_assoc] at hR1
          go_region
          all_goals (try go_wp2)
          all_goals
            refine bodyPost_ret (v := .tuple #[.int .u32 2, .agg #[.int .u32 t.sec, .int .u32 t.nano]]) (by simp (maxDischargeDepth := 8) [results, Try.results41, go_sem, *]) rfl ?_
            refine .inl ⟨(2, t), j + m, pHow_to (Hid.out ‹Hid (pNum _ = _)›) (by rw [List.drop_drop]; exact Hid.out ‹Hid (pTime _ = _)›), by omega, rfl, by (with_reducible (repeat' (first | assumption | apply RB.other | apply RB.alloc | apply RB.drewN | apply RB.drew))) <;> (first | done | (simp; done) | (simp; omega) | omega), by (with_reducible (repeat' (first | exact World.grownBy.refl _ _ | assumption | apply gb_alloc | apply gb_drewN | apply gb_drew | apply gb_setR | refine gb_set ?_ ?_ _))) <;> (first | done | (simp; done) | (simp; omega) | omega)⟩
        · exact ⟨rfl, .inr ⟨er, pHow_to_bad (Hid.out ‹Hid (pNum _ = _)›) (by rw [List.drop_drop]; exact Hid.out ‹Hid (pTime _ = _)›), rfl, HG.out.trans HG2.out⟩⟩
      · have hb : ((v : Int) == 2) = false := beq_eq_false_iff_ne.2 (by omega)
        have hp := Lib.hid hp
        have hR1 := HR'.out
        have hG1 := HG.out
        go_wp2_with (go_at_call 38; refine Calls.mono (must_yes _ _) ?_; rintro e w' ⟨rfl, rfl⟩)
        go_region
        all_goals (try go_wp2)
        all_goals
         refine bodyPost_ret (v := .tuple #[.int .u32 v, .agg #[.int .u32 0, .int .u32 0]]) (by simp (maxDischargeDepth := 8) [results, Try.results41, go_sem, *]) rfl ?_
         refine .inl ⟨(v, ⟨0, 0⟩), j, pHow_no (Hid.out ‹Hid (pNum _ = _)›) hm h2, hl, rfl, by (with_reducible (repeat' (first | assumption | apply RB.other | apply RB.alloc | apply RB.drewN | apply RB.drew))) <;> (first | done | (simp; done) | (simp; omega) | omega), by (with_reducible (repeat' (first | exact World.grownBy.refl _ _ | assumption | apply gb_alloc | apply gb_drewN | apply gb_drew | apply gb_setR | refine gb_set ?_ ?_ _))) <;> (first | done | (simp; done) | (simp; omega) | omega)⟩
    · have hd : decide ((v : Int) ≤ 2) = false := by simp; omega
      have hp := Lib.hid hp
      go_wp2_with (go_at_call 38; refine Calls.mono (must_no _ _) ?_; rintro e w' ⟨rfl, rfl⟩)
      exact ⟨rfl, .inr ⟨5, pHow_big (Hid.out ‹Hid (pNum _ = _)›) hm, rfl, HG.out⟩⟩
  · have hp := Lib.hid hp
    have HG := Lib.hid (gb_alloc_then hg); clear hg
    go_wp2
    exact ⟨rfl, .inr ⟨er, Ps.bind_error (Hid.out ‹Hid (pNum _ = _)›), rfl, HG.out⟩⟩
end
end Go.Proofs.Ytkaapdnjlmceoaa

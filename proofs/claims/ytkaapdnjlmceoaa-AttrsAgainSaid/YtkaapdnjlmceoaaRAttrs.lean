/- attrs: the reader's next Attrs. -/
import Derived.Test.YtkaapdnjlmceoaaReaderT
import Derived.Test.YtkaapdnjlmceoaaStop
import Derived.Test.YtkaapdnjlmceoaaPureB
import Derived.Test.YtkaapdnjlmceoaaContains
set_option linter.unusedVariables false
set_option linter.unusedSimpArgs false
namespace Go.Proofs.Ytkaapdnjlmceoaa
open Go.RowKit
section
variable {R : Nat} {A : Option Addr} {n cap k : Nat} {xs : List UInt8} {w : World}

/-- Where there are bytes enough a number comes. -/
theorem number_ok (hR : RB w R A n cap k) (hB : Bs w A n xs) (hc : n ≤ cap) (hk : k + 4 ≤ n) :
    Calls Try.prog 37 #[.pointer (some ⟨R, 0, none⟩)] w fun e w' => e = .returned (.int .u32 (f4 xs k)) ∧ RB w' R A n cap (k + 4) ∧ Bs w' A n xs ∧ w.grownBy w' (some R) := by
  refine (number_any hR hB hc (by omega)).mono ?_
  have hp : pNum (xs.drop k) = .ok (beN ((xs.drop k).take 4), 4) := by simp [pNum, hB.1]; omega
  rintro e w' (⟨v, j, hp', hl, rfl, hR', hg⟩ | ⟨er, hp', rfl, hg⟩)
  · rw [hp] at hp'
    injection hp' with hp'
    injection hp' with h1 h2
    subst h1; subst h2
    exact ⟨rfl, hR', hB.turn hR hg, hg⟩
  · rw [hp] at hp'; cases hp'
theorem long_ok (hR : RB w R A n cap k) (hB : Bs w A n xs) (hc : n ≤ cap) (hk : k + 8 ≤ n) :
    Calls Try.prog 40 #[.pointer (some ⟨R, 0, none⟩)] w fun e w' => e = .returned (.int .u64 (f8 xs k)) ∧ RB w' R A n cap (k + 8) ∧ Bs w' A n xs ∧ w.grownBy w' (some R) := by
  refine (long_any hR hB hc (by omega)).mono ?_
  have hp : pLong (xs.drop k) = .ok (beN ((xs.drop k).take 8), 8) := by simp [pLong, hB.1]; omega
  rintro e w' (⟨v, j, hp', hl, rfl, hR', hg⟩ | ⟨er, hp', rfl, hg⟩)
  · rw [hp] at hp'
    injection hp' with hp'
    injection hp' with h1 h2
    subst h1; subst h2
    exact ⟨rfl, hR', hB.turn hR hg, hg⟩
  · rw [hp] at hp'; cases hp'
/-- A point of time comes, or the panic. -/
theorem time_ok (hR : RB w R A n cap k) (hB : Bs w A n xs) (hc : n ≤ cap) (hk : k ≤ n) :
    Calls Try.prog 44 #[.pointer (some ⟨R, 0, none⟩)] w fun e w' =>
      (∃ t : Tm, Hid (pTime (xs.drop k) = .ok (t, 8)) ∧ k + 8 ≤ n ∧ e = .returned (.agg #[.int .u32 t.sec, .int .u32 t.nano]) ∧ RB w' R A n cap (k + 8) ∧ Bs w' A n xs ∧ w.grownBy w' (some R)) ∨
      (∃ er, Hid (pTime (xs.drop k) = .error er) ∧ e = .panicked (wr er) ∧ w.grownBy w' (some R)) := by
  refine (time_any hR hB hc hk).mono ?_
  rintro e w' (⟨v, j, hp, hl, rfl, hR', hg⟩ | ⟨er, hp, rfl, hg⟩)
  · have h8 : j = 8 := by
      simp only [pTime] at hp
      split at hp
      · cases hp
      · split at hp
        · injection hp with hp; injection hp with _ h2; exact h2.symm
        · cases hp
    subst h8
    exact .inl ⟨v, hp, hl, rfl, hR', hB.turn hR hg, hg⟩
  · exact .inr ⟨er, hp, rfl, hg⟩
/-- Where there are bytes enough a point of time comes, or it may not be. -/
theorem time_ok2 (hR : RB w R A n cap k) (hB : Bs w A n xs) (hc : n ≤ cap) (hk : k + 8 ≤ n) :
    Calls Try.prog 44 #[.pointer (some ⟨R, 0, none⟩)] w fun e w' =>
      ((tm xs k).ok = true ∧ e = .returned (.agg #[.int .u32 (tm xs k).sec, .int .u32 (tm xs k).nano]) ∧ RB w' R A n cap (k + 8) ∧ w.grownBy w' (some R)) ∨
      ((tm xs k).ok = false ∧ e = .panicked (wr 5) ∧ w.grownBy w' (some R)) := by
  have hl : 8 ≤ (xs.drop k).length := by rw [List.length_drop, hB.1]; omega
  have ht : tm (xs.drop k) 0 = tm xs k := tm_drop xs k 0
  refine (time_ok hR hB hc (by omega)).mono ?_
  rintro e w' (⟨v, hp, h8, rfl, hR', _, hg⟩ | ⟨er, hp, rfl, hg⟩)
  · by_cases ho : (tm xs k).ok = true
    · have hp := hp.out
      rw [pTime_ok hl (by rw [ht]; exact ho), ht] at hp
      injection hp with hp
      injection hp with hp _
      subst hp
      exact .inl ⟨ho, rfl, hR', hg⟩
    · have hp := hp.out
      rw [pTime_bad hl (by rw [ht]; simpa using ho)] at hp
      cases hp
  · by_cases ho : (tm xs k).ok = true
    · have hp := hp.out
      rw [pTime_ok hl (by rw [ht]; exact ho)] at hp
      cases hp
    · have hp := hp.out
      rw [pTime_bad hl (by rw [ht]; simpa using ho)] at hp
      injection hp with hp
      subst hp
      exact .inr ⟨by simpa using ho, rfl, hg⟩
theorem must_any (c : Bool) (e : Int) (w : World) : Calls Try.prog 38 #[.bool c, .int .i64 e] w fun r w' => (c = true ∧ r = .returned (.tuple #[]) ∧ w = w') ∨ (c = false ∧ r = .panicked (wr e) ∧ w = w') := by
  cases c
  · exact (must_no e w).mono fun r w' h => .inr ⟨rfl, h⟩
  · exact (must_yes e w).mono fun r w' h => .inl ⟨rfl, h⟩

theorem pAttrs_bad {b : List UInt8} (h : 84 ≤ b.length) (hm : atMay b = false) : pAttrs b = .error 5 := by rw [pAttrs, if_neg (by omega), hm]; rfl
theorem pAttrs_ok {b : List UInt8} (h : 84 ≤ b.length) (hm : atMay b = true) : pAttrs b = .ok (atOf b, 84) := by rw [pAttrs, if_neg (by omega), hm]; rfl
theorem int_beq_nat (m j : Nat) (c : Bool) (h : ((m : Int) == (j : Int)) = c) : (m == j) = c := by
  rw [← h, Bool.eq_iff_iff, beq_iff_eq, beq_iff_eq]; exact ⟨fun e => by rw [e], fun e => by omega⟩
def At.cells (a : At) : Array Value := #[.int .u32 a.kind, .int .u32 a.mode, .int .u32 a.links, .int .u32 a.user, .int .u32 a.group, .int .u64 a.size, .int .u64 a.used, .int .u64 a.id, .int .u32 a.read.sec, .int .u32 a.read.nano, .int .u32 a.write.sec, .int .u32 a.write.nano, .int .u32 a.turn.sec, .int .u32 a.turn.nano]
def eAttrs (a : At) : Value := .agg a.cells

set_option maxRecDepth 100000 in
set_option maxHeartbeats 8000000 in
theorem attrs_long (hR : RB w R A n cap k) (hB : Bs w A n xs) (hc : n ≤ cap) (hk : k + 84 ≤ n) :
    Calls Try.prog 30 #[.pointer (some ⟨R, 0, none⟩)] w (RdPost pAttrs eAttrs R A n cap k xs w) := by
  have h0 := hR.b; have h1 := hR.at_
  have hn := hB.2.1
  have hRs := hR.lt
  have HR := Lib.hid hR; have HB := Lib.hid hB
  have hd : decide ((84 : Int) ≤ (n : Int) - (k : Int)) = true := by simp; omega
  have HL : Hid (84 ≤ (xs.drop k).length) := by rw [Hid, List.length_drop, hB.1]; omega
  have hbad : Hid (∀ c, c = atMay (xs.drop k) → c = false → pAttrs (xs.drop k) = .error 5) := fun c e h => pAttrs_bad HL.out (e ▸ h)
  have hmay : Hid (atMay (xs.drop k) = (f8 xs (k + 36) == 0 && (f8 xs (k + 44) == 1 && ((tm xs (k + 60)).ok && ((tm xs (k + 68)).ok && ((tm xs (k + 76)).ok && kindOk (f4 xs k) (f4 xs (k + 4)))))))) := by
    rw [Hid, atMay]; simp only [f8_drop, f4_drop, tm_drop, Nat.add_zero]
  clear hR hB
  go_enter Try.func30, Try.ntmps30
  go_wp2_with fail
  go_quiet ((go_at_call 38; refine (must_yes _ _).mono ?_; rintro e w' ⟨rfl, rfl⟩; exact ⟨rfl, _, rfl⟩))
  have hR := HR.out
  have hne : ¬ w.heap.size = R := by omega
  go_upto_region 4 with (first | (go_at_call 37; refine Calls.mono (number_ok (by (with_reducible (repeat' (first | assumption | apply RB.other | apply RB.alloc | apply RB.drewN))) <;> (first | done | (simp; done) | (simp; omega) | omega)) (HB.out.turn HR.out (by (with_reducible (repeat' (first | exact World.grownBy.refl _ _ | assumption | apply gb_alloc | apply gb_drewN | apply gb_drew | apply gb_setR | refine gb_set ?_ ?_ _))) <;> (first | done | (simp; done) | (simp; omega) | omega))) hc ?_) ?_; omega; rintro e w1 ⟨rfl, hR1, _, hg⟩; (try simp only [Nat.add_assoc, Nat.reduceAdd] at hR1); have hG1 : w.grownBy w1 (some R) := World.grownBy.trans (by (with_reducible (repeat' (first | exact World.grownBy.refl _ _ | assumption | apply gb_alloc | apply gb_drewN | apply gb_drew | apply gb_setR | refine gb_set ?_ ?_ _))) <;> (first | done | (simp; done) | (simp; omega) | omega)) hg; obtain ⟨hcx, hfx⟩ := gcell hg; have hzx := hg.size; (try simp at hzx); have hzy : w.heap.size < w1.heap.size := (by omega); clear hg hzx) | (go_at_call 40; refine Calls.mono (long_ok (by (with_reducible (repeat' (first | assumption | apply RB.other | apply RB.alloc | apply RB.drewN))) <;> (first | done | (simp; done) | (simp; omega) | omega)) (HB.out.turn HR.out (by (with_reducible (repeat' (first | exact World.grownBy.refl _ _ | assumption | apply gb_alloc | apply gb_drewN | apply gb_drew | apply gb_setR | refine gb_set ?_ ?_ _))) <;> (first | done | (simp; done) | (simp; omega) | omega))) hc ?_) ?_; omega; rintro e w1 ⟨rfl, hR1, _, hg⟩; (try simp only [Nat.add_assoc, Nat.reduceAdd] at hR1); have hG1 : w.grownBy w1 (some R) := World.grownBy.trans (by (with_reducible (repeat' (first | exact World.grownBy.refl _ _ | assumption | apply gb_alloc | apply gb_drewN | apply gb_drew | apply gb_setR | refine gb_set ?_ ?_ _))) <;> (first | done | (simp; done) | (simp; omega) | omega)) hg; obtain ⟨hcx, hfx⟩ := gcell hg; have hzx := hg.size; (try simp at hzx); have hzy : w.heap.size < w1.heap.size := (by omega); clear hg hzx))
  rcases Bool.eq_false_or_eq_true (((f8 xs (k + 36) : Nat) : Int) == 0) with hz | hz
  · rcases Bool.eq_false_or_eq_true (((f8 xs (k + 44) : Nat) : Int) == 1) with ho | ho
    · go_upto_region 7 with (first | (go_at_call 40; refine Calls.mono (long_ok (by (with_reducible (repeat' (first | assumption | apply RB.other | apply RB.alloc | apply RB.drewN))) <;> (first | done | (simp; done) | (simp; omega) | omega)) (HB.out.turn HR.out (by (with_reducible (repeat' (first | exact World.grownBy.refl _ _ | assumption | apply gb_alloc | apply gb_drewN | apply gb_drew | apply gb_setR | refine gb_set ?_ ?_ _))) <;> (first | done | (simp; done) | (simp; omega) | omega))) hc ?_) ?_; omega; rintro e w1 ⟨rfl, hR1, _, hg⟩; (try simp only [Nat.add_assoc, Nat.reduceAdd] at hR1); have hG1 : w.grownBy w1 (some R) := World.grownBy.trans (by (with_reducible (repeat' (first | exact World.grownBy.refl _ _ | assumption | apply gb_alloc | apply gb_drewN | apply gb_drew | apply gb_setR | refine gb_set ?_ ?_ _))) <;> (first | done | (simp; done) | (simp; omega) | omega)) hg; obtain ⟨hcx, hfx⟩ := gcell hg; have hzx := hg.size; (try simp at hzx); have hzy : w.heap.size < w1.heap.size := (by omega); clear hg hzx) | (go_at_call 44; refine Calls.mono (time_ok2 (by (with_reducible (repeat' (first | assumption | apply RB.other | apply RB.alloc | apply RB.drewN))) <;> (first | done | (simp; done) | (simp; omega) | omega)) (HB.out.turn HR.out (by (with_reducible (repeat' (first | exact World.grownBy.refl _ _ | assumption | apply gb_alloc | apply gb_drewN | apply gb_drew | apply gb_setR | refine gb_set ?_ ?_ _))) <;> (first | done | (simp; done) | (simp; omega) | omega))) hc ?_) ?_; omega; rintro e w1 (⟨ht, rfl, hR1, hg⟩ | ⟨ht, rfl, hg⟩); rotate_left; (have hT := Lib.hid ht; have hG1 : w.grownBy w1 (some R) := World.grownBy.trans (by (with_reducible (repeat' (first | exact World.grownBy.refl _ _ | assumption | apply gb_alloc | apply gb_drewN | apply gb_drew | apply gb_setR | refine gb_set ?_ ?_ _))) <;> (first | done | (simp; done) | (simp; omega) | omega)) hg; clear hg ht); rotate_left; (have hT := Lib.hid ht; clear ht; (try simp only [Nat.add_assoc, Nat.reduceAdd] at hR1); have hG1 : w.grownBy w1 (some R) := World.grownBy.trans (by (with_reducible (repeat' (first | exact World.grownBy.refl _ _ | assumption | apply gb_alloc | apply gb_drewN | apply gb_drew | apply gb_setR | refine gb_set ?_ ?_ _))) <;> (first | done | (simp; done) | (simp; omega) | omega)) hg; obtain ⟨hcx, hfx⟩ := gcell hg; have hzx := hg.size; (try simp at hzx); have hzy : w.heap.size < w1.heap.size := (by omega); clear hg hzx)) | (go_at_call 38; refine Calls.mono (must_yes _ _) ?_; rintro e w' ⟨rfl, rfl⟩))
      · have hkm : Hid (atMay (xs.drop k) = kindOk (f4 xs k) (f4 xs (k + 4))) := by
          rw [Hid, hmay.out, int_beq_nat _ _ _ hz, int_beq_nat _ _ _ ho, (‹Hid ((tm xs (k + 60)).ok = true)›).out, (‹Hid ((tm xs (k + 68)).ok = true)›).out, (‹Hid ((tm xs (k + 76)).ok = true)›).out]; rfl
        by_cases hm : f4 xs (k + 4) ≤ 4095
        · have hmd : decide (((f4 xs (k + 4) : Nat) : Int) ≤ 4095) = true := by simp; omega
          rcases Bool.eq_false_or_eq_true (f4 xs k == 1 || f4 xs k == 2 || f4 xs k == 5) with hkk | hkk
          · go_wp2_with (first | (go_at_call 56; refine Calls.mono (ContainsKinds _ _ _ (by simp [go_sem]) (by simp [go_sem]) (by simp [go_sem])) ?_; rw [hkk]; rintro e w' ⟨rfl, rfl⟩) | (go_at_call 38; refine Calls.mono (must_yes _ _) ?_; rintro e w' ⟨rfl, rfl⟩))
            refine bodyPost_ret (v := .agg #[.int .u32 (f4 xs k), .int .u32 (f4 xs (k + 4)), .int .u32 (f4 xs (k + 8)), .int .u32 (f4 xs (k + 12)), .int .u32 (f4 xs (k + 16)), .int .u64 (f8 xs (k + 20)), .int .u64 (f8 xs (k + 28)), .int .u64 (f8 xs (k + 52)), .int .u32 (tm xs (k + 60)).sec, .int .u32 (tm xs (k + 60)).nano, .int .u32 (tm xs (k + 68)).sec, .int .u32 (tm xs (k + 68)).nano, .int .u32 (tm xs (k + 76)).sec, .int .u32 (tm xs (k + 76)).nano]) (by simp (maxDischargeDepth := 8) [results, Try.results30, go_sem, *]) rfl ?_
            refine .inl ⟨atOf (xs.drop k), 84, pAttrs_ok HL.out ?_, hk, ?_, ?_, ?_⟩
            · rw [hkm.out, kindOk, hkk, decide_eq_true hm]; rfl
            · simp only [eAttrs, At.cells, atOf, f4_drop, f8_drop, tm_drop, Nat.add_zero]
            · ((with_reducible (repeat' (first | assumption | apply RB.other | apply RB.alloc | apply RB.drewN))) <;> (first | done | (simp; done) | (simp; omega) | omega))
            · ((with_reducible (repeat' (first | exact World.grownBy.refl _ _ | assumption | apply gb_alloc | apply gb_drewN | apply gb_drew | apply gb_setR | refine gb_set ?_ ?_ _))) <;> (first | done | (simp; done) | (simp; omega) | omega))
          · go_wp2_with (first | (go_at_call 56; refine Calls.mono (ContainsKinds _ _ _ (by simp [go_sem]) (by simp [go_sem]) (by simp [go_sem])) ?_; rw [hkk]; rintro e w' ⟨rfl, rfl⟩) | (go_at_call 38; refine Calls.mono (must_no _ _) ?_; rintro e w' ⟨rfl, rfl⟩))
            exact ⟨rfl, .inr ⟨5, hbad.out _ hkm.out.symm (by rw [kindOk, hkk]; rfl), rfl, by (with_reducible (repeat' (first | exact World.grownBy.refl _ _ | assumption | apply gb_alloc | apply gb_drewN | apply gb_drew | apply gb_setR | refine gb_set ?_ ?_ _))) <;> (first | done | (simp; done) | (simp; omega) | omega)⟩⟩
        · have hmd : decide (((f4 xs (k + 4) : Nat) : Int) ≤ 4095) = false := by simp; omega
          rcases Bool.eq_false_or_eq_true (f4 xs k == 1 || f4 xs k == 2 || f4 xs k == 5) with hkk | hkk
          all_goals
            go_wp2_with (first | (go_at_call 56; refine Calls.mono (ContainsKinds _ _ _ (by simp [go_sem]) (by simp [go_sem]) (by simp [go_sem])) ?_; rw [hkk]; rintro e w' ⟨rfl, rfl⟩) | (go_at_call 38; refine Calls.mono (must_no _ _) ?_; rintro e w' ⟨rfl, rfl⟩))
            exact ⟨rfl, .inr ⟨5, hbad.out _ hkm.out.symm (by rw [kindOk, hkk, decide_eq_false hm]; rfl), rfl, by (with_reducible (repeat' (first | exact World.grownBy.refl _ _ | assumption | apply gb_alloc | apply gb_drewN | apply gb_drew | apply gb_setR | refine gb_set ?_ ?_ _))) <;> (first | done | (simp; done) | (simp; omega) | omega)⟩⟩
      · exact ⟨rfl, .inr ⟨5, hbad.out _ hmay.out.symm (by simp [(‹Hid ((tm xs (k + 76)).ok = false)›).out]), rfl, by assumption⟩⟩
      · exact ⟨rfl, .inr ⟨5, hbad.out _ hmay.out.symm (by simp [(‹Hid ((tm xs (k + 68)).ok = false)›).out]), rfl, by assumption⟩⟩
      · exact ⟨rfl, .inr ⟨5, hbad.out _ hmay.out.symm (by simp [(‹Hid ((tm xs (k + 60)).ok = false)›).out]), rfl, by assumption⟩⟩
    · go_wp2_with (first | (go_at_call 40; refine Calls.mono (long_ok (by (with_reducible (repeat' (first | assumption | apply RB.other | apply RB.alloc | apply RB.drewN))) <;> (first | done | (simp; done) | (simp; omega) | omega)) (HB.out.turn HR.out (by (with_reducible (repeat' (first | exact World.grownBy.refl _ _ | assumption | apply gb_alloc | apply gb_drewN | apply gb_drew | apply gb_setR | refine gb_set ?_ ?_ _))) <;> (first | done | (simp; done) | (simp; omega) | omega))) hc ?_) ?_; omega; rintro e w1 ⟨rfl, hR1, _, hg⟩; (try simp only [Nat.add_assoc, Nat.reduceAdd] at hR1); have hG1 : w.grownBy w1 (some R) := World.grownBy.trans (by (with_reducible (repeat' (first | exact World.grownBy.refl _ _ | assumption | apply gb_alloc | apply gb_drewN | apply gb_drew | apply gb_setR | refine gb_set ?_ ?_ _))) <;> (first | done | (simp; done) | (simp; omega) | omega)) hg; obtain ⟨hcx, hfx⟩ := gcell hg; have hzx := hg.size; (try simp at hzx); have hzy : w.heap.size < w1.heap.size := (by omega); clear hg hzx) | (go_at_call 38; refine Calls.mono (must_no _ _) ?_; rintro e w' ⟨rfl, rfl⟩))
      exact ⟨rfl, .inr ⟨5, hbad.out _ hmay.out.symm (by rw [int_beq_nat _ _ _ hz, int_beq_nat _ _ _ ho]; rfl), rfl, by assumption⟩⟩
  · go_wp2_with (first | (go_at_call 40; refine Calls.mono (long_ok (by (with_reducible (repeat' (first | assumption | apply RB.other | apply RB.alloc | apply RB.drewN))) <;> (first | done | (simp; done) | (simp; omega) | omega)) (HB.out.turn HR.out (by (with_reducible (repeat' (first | exact World.grownBy.refl _ _ | assumption | apply gb_alloc | apply gb_drewN | apply gb_drew | apply gb_setR | refine gb_set ?_ ?_ _))) <;> (first | done | (simp; done) | (simp; omega) | omega))) hc ?_) ?_; omega; rintro e w1 ⟨rfl, hR1, _, hg⟩; (try simp only [Nat.add_assoc, Nat.reduceAdd] at hR1); have hG1 : w.grownBy w1 (some R) := World.grownBy.trans (by (with_reducible (repeat' (first | exact World.grownBy.refl _ _ | assumption | apply gb_alloc | apply gb_drewN | apply gb_drew | apply gb_setR | refine gb_set ?_ ?_ _))) <;> (first | done | (simp; done) | (simp; omega) | omega)) hg; obtain ⟨hcx, hfx⟩ := gcell hg; have hzx := hg.size; (try simp at hzx); have hzy : w.heap.size < w1.heap.size := (by omega); clear hg hzx) | (go_at_call 38; refine Calls.mono (must_no _ _) ?_; rintro e w' ⟨rfl, rfl⟩))
    exact ⟨rfl, .inr ⟨5, hbad.out _ hmay.out.symm (by rw [int_beq_nat _ _ _ hz]; rfl), rfl, by assumption⟩⟩
end
end Go.Proofs.Ytkaapdnjlmceoaa

/- attrs: the reader's next point of time. -/
import Derived.Test.YtkaapdnjlmceoaaReader
import Derived.Deep.RegionHeld3
import Derived.Deep.RegionWith
import Derived.Deep.DeepCutAuto
set_option linter.unusedVariables false
set_option linter.unusedSimpArgs false
namespace Go.Proofs.Ytkaapdnjlmceoaa
open Go.RowKit
section
variable {R : Nat} {A : Option Addr} {n cap k : Nat} {xs : List UInt8} {w : World}
/-- The address and the room of what stands from k on, as the walk spells them once the test is decided. -/
theorem Bs.rest (hB : Bs w A n xs) (hc : n ≤ cap) (hk : k ≤ n) : ∃ A' m c', Bs w A' m (xs.drop k) ∧ m ≤ c' ∧ m = n - k ∧ ((k < cap ∧ A' = Option.map (fun x => x.add k) A ∧ m = n - k ∧ c' = cap - k) ∨ (cap = k ∧ n = k ∧ A' = A ∧ m = 0 ∧ c' = 0)) := by
  rcases Nat.lt_or_ge k cap with h | h
  · exact ⟨_, _, _, hB.from_lt k hk h, by omega, rfl, .inl ⟨h, rfl, rfl, rfl⟩⟩
  · have h1 : xs.drop k = [] := List.eq_nil_of_length_eq_zero (by rw [List.length_drop, hB.1]; omega)
    exact ⟨A, 0, 0, by rw [h1]; exact Bs.nil _ _, Nat.le_refl _, by omega, .inr ⟨by omega, by omega, rfl, rfl, rfl⟩⟩

set_option maxRecDepth 100000 in
set_option maxHeartbeats 4000000 in
theorem nextTime_lt (hR : RB w R A n cap k) (hB : Bs w A n xs) (hc : n ≤ cap) (hk : k ≤ n) (hck : k < cap) :
    Calls Try.prog 74 #[.pointer (some ⟨R, 0, none⟩), .func (.func 75) #[] #[], .int .i64 8] w (RdPost pTime eTime R A n cap k xs w) := by
  have h0 := hR.b; have h1 := hR.at_; have hf := hR.free 1
  have hn := hB.2.1
  have HR := Lib.hid hR
  have hRs := hR.lt
  have hD := Lib.hid (hB.from_lt k hk hck)
  obtain ⟨t, er, hG, hcase⟩ := TGet_any (Option.map (fun x => x.add k) A) (n - k) (cap - k) (xs.drop k) hD.out.1 (by omega)
  have HG := Lib.hid hG; have HC := Lib.hid hcase; clear hG hcase
  have hne : ¬ cap = k := by omega
  clear hR hB
  go_enter Try.func74, Try.ntmps74
  go_upto_region 1 with fail
  go_cut [7, 8] (fun s7 s8 wx => ∃ g : Nat, w.heap.size ≤ g ∧ s7 = .pointer (some ⟨g, 0, none⟩) ∧ s8 = .int .i64 er ∧ wx.cell? ⟨g, 0, none⟩ = some (.int .u32 t.sec) ∧ wx.cell? ⟨g, 1, none⟩ = some (.int .u32 t.nano) ∧ Below (w.alloc (.cells #[.int .u32 0, .int .u32 0] 29)).heap.size (w.alloc (.cells #[.int .u32 0, .int .u32 0] 29)) wx)
  case first =>
    go_region_with ((go_at_call 75; refine (HG.out _ (hD.out.below (by (with_reducible (repeat' (first | exact Below.refl _ _ | assumption | apply bl_alloc | apply bl_drewN | apply bl_drew | refine bl_set ?_ ?_ _))) <;> (first | done | (simp; done) | (simp; omega) | omega)))).mono ?_; rintro e w' ⟨rfl, hb1⟩; have hb2 : Below (w.alloc (.cells #[.int .u32 0, .int .u32 0] 29)).heap.size (w.alloc (.cells #[.int .u32 0, .int .u32 0] 29)) w' := bl_then' hb1 (by (with_reducible (repeat' (first | exact Below.refl _ _ | assumption | apply bl_alloc | apply bl_drewN | apply bl_drew | refine bl_set ?_ ?_ _))) <;> (first | done | (simp; done) | (simp; omega) | omega)); obtain ⟨hcx, hfx⟩ := bcell hb1; have hzx := hb1.size; simp at hzx; clear hb1))
    all_goals (go_wp2_with fail; go_meet; exact ⟨_, by omega, rfl, rfl, by simp [go_sem, hcx], by simp [go_sem, hcx], by (with_reducible (repeat' (first | exact Below.refl _ _ | assumption | apply bl_alloc | apply bl_drewN | apply bl_drew | refine bl_set ?_ ?_ _))) <;> (first | done | (simp; done) | (simp; omega) | omega)⟩)
  case rest =>
    obtain ⟨g, hgw, rfl, rfl, hg0, hg1, hb⟩ := hcut
    have hgR : ¬ g = R := by omega
    have hbw : Below w.heap.size w wc := bl_then' hb (by (with_reducible (repeat' (first | exact Below.refl _ _ | assumption | apply bl_alloc | apply bl_drewN | apply bl_drew | refine bl_set ?_ ?_ _))) <;> (first | done | (simp; done) | (simp; omega) | omega))
    obtain ⟨hcx, hfx⟩ := bcell hb; have hzx := hb.size; simp at hzx; clear hb
    have hR0 := HR.out.below hbw
    have h0 := hR0.b; have h1 := hR0.at_; have hf := hR0.free 1
    have HR0 := Lib.hid hR0; clear hR0
    rcases HC.out with ⟨e0, hp, h8⟩ | ⟨e0, hp⟩
    · have hl : k + 8 ≤ n := by omega
      have hp := Lib.hid hp
      obtain rfl := e0
      clear HC
      go_wp2_with (go_at_call 38; refine (must_yes _ _).mono ?_; rintro e w' ⟨rfl, rfl⟩)
      refine bodyPost_ret (v := .agg #[.int .u32 t.sec, .int .u32 t.nano]) (by simp [results, Try.results74, go_sem, hcx]) rfl ?_
      refine .inl ⟨t, 8, Hid.out ‹Hid (pTime _ = _)›, hl, rfl, ?_, ?_⟩
      · exact ((HR0.out.set (k + 8)).other (by simp; omega) _).other (by simp; omega) _
      · have := gb_below (r := some R) hbw
        (with_reducible (repeat' (first | exact World.grownBy.refl _ _ | assumption | apply gb_alloc | apply gb_drewN | apply gb_drew | apply gb_setR | refine gb_set ?_ ?_ _))) <;> (first | done | (simp; done) | (simp; omega) | omega)
    · have hp := Lib.hid hp
      clear HC
      go_wp2_with (go_at_call 38; refine (must_no _ _).mono ?_; rintro e w' ⟨rfl, rfl⟩)
      exact ⟨rfl, .inr ⟨er, Hid.out ‹Hid (pTime _ = _)›, rfl, grown_of_below hbw _⟩⟩
set_option maxRecDepth 100000 in
set_option maxHeartbeats 4000000 in
theorem nextTime_end (hR : RB w R A k k k) (hB : Bs w A k xs) :
    Calls Try.prog 74 #[.pointer (some ⟨R, 0, none⟩), .func (.func 75) #[] #[], .int .i64 8] w (RdPost pTime eTime R A k k k xs w) := by
  have h0 := hR.b; have h1 := hR.at_; have hf := hR.free 1
  have hn := hB.2.1
  have HR := Lib.hid hR
  have hRs := hR.lt
  have hp : pTime (xs.drop k) = .error 4 := by simp [pTime, hB.1]
  have HP := Lib.hid hp
  clear hR hB hp
  go_enter Try.func74, Try.ntmps74
  go_upto_region 1 with fail
  go_cut [7, 8] (fun s7 s8 wx => ∃ g : Nat, w.heap.size ≤ g ∧ s7 = .pointer (some ⟨g, 0, none⟩) ∧ s8 = .int .i64 4 ∧ Below w.heap.size w wx)
  case first =>
    go_region_with ((go_at_call 75; refine (TGet_short _ _ _ _ _ (Bs.nil _ _) (by omega)).mono ?_; rintro e w' ⟨rfl, hb1⟩; have hb2 : Below w.heap.size w w' := bl_then' hb1 (by (with_reducible (repeat' (first | exact Below.refl _ _ | assumption | apply bl_alloc | apply bl_drewN | apply bl_drew | refine bl_set ?_ ?_ _))) <;> (first | done | (simp; done) | (simp; omega) | omega)); obtain ⟨hcx, hfx⟩ := bcell hb1; have hzx := hb1.size; simp at hzx; clear hb1))
    all_goals (go_wp2_with fail; go_meet; exact ⟨_, by omega, rfl, rfl, by (with_reducible (repeat' (first | exact Below.refl _ _ | assumption | apply bl_alloc | apply bl_drewN | apply bl_drew | refine bl_set ?_ ?_ _))) <;> (first | done | (simp; done) | (simp; omega) | omega)⟩)
  case rest =>
    obtain ⟨g, hgw, rfl, rfl, hbw⟩ := hcut
    go_wp2_with (go_at_call 38; refine (must_no _ _).mono ?_; rintro e w' ⟨rfl, rfl⟩)
    exact ⟨rfl, .inr ⟨4, HP.out, rfl, grown_of_below hbw _⟩⟩
theorem nextTime_any (hR : RB w R A n cap k) (hB : Bs w A n xs) (hc : n ≤ cap) (hk : k ≤ n) :
    Calls Try.prog 74 #[.pointer (some ⟨R, 0, none⟩), .func (.func 75) #[] #[], .int .i64 8] w (RdPost pTime eTime R A n cap k xs w) := by
  rcases Nat.lt_or_ge k cap with h | h
  · exact nextTime_lt hR hB hc hk h
  · obtain rfl : n = cap := by omega
    obtain rfl : k = n := by omega
    exact nextTime_end hR hB
theorem time_any (hR : RB w R A n cap k) (hB : Bs w A n xs) (hc : n ≤ cap) (hk : k ≤ n) :
    Calls Try.prog 44 #[.pointer (some ⟨R, 0, none⟩)] w (RdPost pTime eTime R A n cap k xs w) := by
  have HR := Lib.hid hR; have HB := Lib.hid hB
  have hRs := hR.lt
  clear hR hB
  go_enter Try.func44, Try.ntmps44
  go_wp2_with fail
  refine (nextTime_any (HR.out.alloc _) (HB.out.alloc _) hc hk).mono ?_
  rintro e w' (⟨v, j, hp, hl, rfl, hR', hg⟩ | ⟨er, hp, rfl, hg⟩)
  · have hp := Lib.hid hp
    obtain ⟨hcx, hfx⟩ := gcell hg
    have hzx := hg.size; simp at hzx
    have hne : ¬ w.heap.size = R := by omega
    have HR' := Lib.hid hR'; have HG := Lib.hid hg; clear hR' hg
    simp only [eTime]
    go_wp2
    refine bodyPost_ret (v := .agg #[.int .u32 v.sec, .int .u32 v.nano]) (by simp [results, Try.results44, go_sem, hcx, hne]) rfl ?_
    refine .inl ⟨v, j, Hid.out ‹Hid (pTime _ = _)›, hl, rfl, ?_, ?_⟩
    · exact (HR'.out.other (by simp; omega) _).other (by simp; omega) _
    · have := gb_alloc_then HG.out
      (with_reducible (repeat' (first | exact World.grownBy.refl _ _ | assumption | apply gb_alloc | apply gb_drewN | apply gb_drew | apply gb_setR | refine gb_set ?_ ?_ _))) <;> (first | done | (simp; done) | (simp; omega) | omega)
  · have hp := Lib.hid hp
    have HG := Lib.hid hg; clear hg
    go_wp2
    exact ⟨rfl, .inr ⟨er, Hid.out ‹Hid (pTime _ = _)›, rfl, gb_alloc_then HG.out⟩⟩
end
end Go.Proofs.Ytkaapdnjlmceoaa

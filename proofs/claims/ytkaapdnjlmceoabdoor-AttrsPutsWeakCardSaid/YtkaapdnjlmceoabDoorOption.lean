/- attrs.option: yes, and what is had; no, if it is not, and zero; a part. -/
import Derived.Test.YtkaapdnjlmceoabDoorMake
import Derived.Test.YtkaapdnjlmceoabDoorConcat
import Derived.Deep.RegionHeld3
import Derived.Deep.RegionHeld2
set_option linter.unusedVariables false
set_option linter.unusedSimpArgs false
namespace Go.Proofs.YtkaapdnjlmceoabDoor
open Go.RowKit
theorem GivesPost.ok {bs : List UInt8} {w w' : World} {e : Ending} (h : GivesPost (.ok bs) w e w') : ∃ v, e = .returned v ∧ OwnB w' w.heap.size v bs ∧ Below w.heap.size w w' := by
  obtain ⟨hb, ⟨_, v, h, rfl, o⟩ | ⟨_, h, _⟩⟩ := h
  · injection h with h; subst h; exact ⟨v, rfl, o, hb⟩
  · cases h
theorem GivesPost.err {er : Int} {w w' : World} {e : Ending} (h : GivesPost (.error er) w e w') : e = .panicked (wr er) ∧ Below w.heap.size w w' := by
  obtain ⟨hb, ⟨_, v, h, _⟩ | ⟨_, h, rfl⟩⟩ := h
  · cases h
  · injection h with h; subst h; exact ⟨rfl, hb⟩
/-- Yes, and the parts; no, if it is not had, and zero. -/
def rOpt (has zero : Bool) (rs : List (Except Int (List UInt8))) : Except Int (List UInt8) :=
  if (has || zero) = false then .error 1 else if has = false then .ok (putYes false) else match catP rs with | .error e => .error e | .ok b => .ok (putYes true ++ b)
section
variable {a b c g n cap : Nat} {rs : List (Except Int (List UInt8))} {w : World}
set_option maxRecDepth 100000 in
set_option maxHeartbeats 2000000 in
theorem option1_bad (h0 : w.cell? ⟨a, 0, none⟩ = some (.bool false)) (h1 : w.cell? ⟨b, 0, none⟩ = some (.bool false)) :
    Calls Tryd.prog 22 #[.pointer (some ⟨a, 0, none⟩), .pointer (some ⟨b, 0, none⟩), .pointer (some ⟨c, 0, none⟩)] w (GivesPost (.error 1) w) := by
  go_enter Tryd.func22, Tryd.ntmps22
  go_wp2_with (go_at_call 23; refine (must_no _ _).mono ?_; rintro e w' ⟨rfl, rfl⟩)
  exact ⟨rfl, by (with_reducible (repeat' (first | exact Below.refl _ _ | assumption | apply bl_alloc | apply bl_drewN | apply bl_drew | refine bl_set ?_ ?_ _))) <;> (first | done | (simp; done) | (simp; omega) | omega), .inr ⟨_, rfl, rfl⟩⟩
set_option maxRecDepth 100000 in
set_option maxHeartbeats 2000000 in
theorem option1_no (h0 : w.cell? ⟨a, 0, none⟩ = some (.bool false)) (h1 : w.cell? ⟨b, 0, none⟩ = some (.bool true)) :
    Calls Tryd.prog 22 #[.pointer (some ⟨a, 0, none⟩), .pointer (some ⟨b, 0, none⟩), .pointer (some ⟨c, 0, none⟩)] w (GivesPost (.ok (putYes false)) w) := by
  go_enter Tryd.func22, Tryd.ntmps22
  go_wp2_with (first
    | (go_at_call 23; refine (must_yes _ _).mono ?_; rintro e w' ⟨rfl, rfl⟩)
    | (go_at_call 24; refine (PutYes_any false _).mono ?_; rintro e w1 ⟨v, rfl, o, b1⟩))
  go_ret
  exact ⟨b1, .inl ⟨_, _, rfl, rfl, o⟩⟩
set_option maxRecDepth 100000 in
set_option maxHeartbeats 4000000 in
theorem option1_yes (zero : Bool) (hn : n = rs.length) (hn2 : n ≤ 40) (hn0 : 0 < n) (hf : ∀ r ∈ rs, Few r) (hP : PartsB w g rs) (hl : c < w.heap.size)
    (h0 : w.cell? ⟨a, 0, none⟩ = some (.bool true)) (h2 : w.cell? ⟨c, 0, none⟩ = some (.slice (some ⟨g, 0, none⟩) n cap)) :
    Calls Tryd.prog 22 #[.pointer (some ⟨a, 0, none⟩), .pointer (some ⟨b, 0, none⟩), .pointer (some ⟨c, 0, none⟩)] w (GivesPost (rOpt true zero rs) w) := by
  have HP := Lib.hid hP
  have HA := Lib.hid (fun w' h => all_any rs g n cap hn (by omega) hf w' h)
  have HY := Lib.hid (fun w' => PutYes_any true w')
  have hlen : ∀ bs, catP rs = .ok bs → 0 < bs.length ∧ bs.length ≤ 40000 := fun bs hb => by
    have h1 := catP_len hb 1000 (fun r hr c e => (hf r hr c e).2)
    refine ⟨?_, ?_⟩
    · cases rs with
      | nil => simp at hn; omega
      | cons r rs =>
        cases r with
        | error e => simp [catP] at hb
        | ok x =>
          have := (hf _ (List.mem_cons_self ..) x rfl).1
          simp only [catP] at hb
          cases hc : catP rs with
          | error e => rw [hc] at hb; cases hb
          | ok y => rw [hc] at hb; injection hb with hb; rw [← hb, List.length_append]; omega
    · rw [← hn] at h1; omega
  clear hP hf hn
  have HC := Lib.hid hlen
  clear hlen hn2 hn0
  go_enter Tryd.func22, Tryd.ntmps22
  go_wp2_with (first | (go_at_call 23; refine (must_yes _ _).mono ?_; rintro e w' ⟨rfl, rfl⟩))
  go_region_held2 (fun wx => wx.cell? ⟨c, 0, none⟩ = some (.slice (some ⟨g, 0, none⟩) n cap)) (go_keep) (first
    | (go_at_call 24; refine Calls.mono (HY.out _) ?_; rintro e w1 ⟨v1, rfl, o1, b1⟩; (obtain ⟨g1, cc1, rfl, hg1⟩ := o1.slice (by decide)); clear hg1; (obtain ⟨hcx, hfx⟩ := bcell b1); (have hB1 : Below w.heap.size w w1 := bl_then (by (with_reducible (repeat' (first | exact Below.refl _ _ | assumption | apply bl_alloc | apply bl_drewN | apply bl_drew | refine bl_set ?_ ?_ _))) <;> (first | done | (simp; done) | (simp; omega) | omega)) b1); (have hz1 := b1.size); (try simp at hz1); (have hz1' : c < w1.heap.size := (by omega)); (have hk1 : w1.cell? ⟨c, 0, none⟩ = some (.slice (some ⟨g, 0, none⟩) n cap) := (hcx _ 0 (by simp; omega)).trans (by simp [go_sem, h2])))
    | (go_at_call 8; refine Calls.mono (HA.out _ (HP.out.below (by (with_reducible (repeat' (first | exact Below.refl _ _ | assumption | apply bl_alloc | apply bl_drewN | apply bl_drew | refine bl_set ?_ ?_ _))) <;> (first | done | (simp; done) | (simp; omega) | omega)))) ?_; rintro e w2 ⟨b2, ⟨bs, v2, hr, rfl, o2⟩ | ⟨er, hr, rfl⟩⟩; rotate_left; ((have hb2 : Below w.heap.size w w2 := bl_then (by (with_reducible (repeat' (first | exact Below.refl _ _ | assumption | apply bl_alloc | apply bl_drewN | apply bl_drew | refine bl_set ?_ ?_ _))) <;> (first | done | (simp; done) | (simp; omega) | omega)) b2); exact ⟨rfl, hb2, .inr ⟨er, by simp [rOpt, hr], rfl⟩⟩); ((obtain ⟨g2, cc2, rfl, hg2⟩ := o2.slice (HC.out _ hr).1); clear hg2; (obtain ⟨hcx, hfx⟩ := bcell b2); (have hB2 : Below w.heap.size w w2 := bl_then (by (with_reducible (repeat' (first | exact Below.refl _ _ | assumption | apply bl_alloc | apply bl_drewN | apply bl_drew | refine bl_set ?_ ?_ _))) <;> (first | done | (simp; done) | (simp; omega) | omega)) b2); (have hz2 := b2.size); (try simp at hz2); (have hz2' : c < w2.heap.size := (by omega)); (have hk2 : w2.cell? ⟨c, 0, none⟩ = some (.slice (some ⟨g, 0, none⟩) n cap) := (hcx _ 0 (by first | assumption | (simp; omega))).trans (by first | exact hk1 | (simp [go_sem, h2]))); (have HR := Lib.hid hr); clear hr))
    | (go_at_call 25; refine Calls.mono (Concat_two _ (.slice (some ⟨g1, 0, none⟩) (putYes true).length cc1) (.slice (some ⟨g2, 0, none⟩) bs.length cc2) _ _ (putYes true) bs _ (by simp) (by simp [go_sem]) (by simp [go_sem]) (o1.below (by (with_reducible (repeat' (first | exact Below.refl _ _ | assumption | apply bl_alloc | apply bl_drewN | apply bl_drew | refine bl_set ?_ ?_ _))) <;> (first | done | (simp; done) | (simp; omega) | omega))) (o2.below (by (with_reducible (repeat' (first | exact Below.refl _ _ | assumption | apply bl_alloc | apply bl_drewN | apply bl_drew | refine bl_set ?_ ?_ _))) <;> (first | done | (simp; done) | (simp; omega) | omega))) (by decide) (HC.out _ HR.out).1 (by decide) (by have := (HC.out _ HR.out).2; omega)) ?_; rintro e w3 ⟨v3, rfl, o3, b3⟩; (have hB3 : Below w.heap.size w w3 := bl_then (by (with_reducible (repeat' (first | exact Below.refl _ _ | assumption | apply bl_alloc | apply bl_drewN | apply bl_drew | refine bl_set ?_ ?_ _))) <;> (first | done | (simp; done) | (simp; omega) | omega)) b3); (have hk3 : w3.cell? ⟨c, 0, none⟩ = some (.slice (some ⟨g, 0, none⟩) n cap) := (hB3.cell (p := ⟨c, 0, none⟩) hl).trans h2); (have hz4 := b3.size); (try simp at hz4)))
  go_wp2
  go_ret
  refine ⟨hB3, .inl ⟨_, _, ?_, rfl, o3.mono (by simp; omega)⟩⟩
  simp [rOpt, HR.out]
end
theorem few_opt (has zero : Bool) (rs : List (Except Int (List UInt8))) (hf : ∀ r ∈ rs, ∀ c, r = .ok c → c.length ≤ 100) (hn : rs.length ≤ 3) : Few (rOpt has zero rs) := fun c h => by
  unfold rOpt at h
  split at h
  · cases h
  · split at h
    · injection h with h; subst h; simp [putYes]
    · split at h
      · cases h
      · rename_i b hb
        injection h with h; subst h
        have h1 := catP_len hb 100 hf
        rw [List.length_append]
        have : (putYes true).length = 4 := rfl
        omega
theorem option_clos {a b c g n cap : Nat} {rs : List (Except Int (List UInt8))} {w : World} (has zero : Bool) (hn : n = rs.length) (hn2 : n ≤ 40) (hn0 : 0 < n) (hf : ∀ r ∈ rs, Few r) (hP : PartsB w g rs) (hl : c < w.heap.size)
    (h0 : w.cell? ⟨a, 0, none⟩ = some (.bool has)) (h1 : w.cell? ⟨b, 0, none⟩ = some (.bool zero)) (h2 : w.cell? ⟨c, 0, none⟩ = some (.slice (some ⟨g, 0, none⟩) n cap)) :
    Calls Tryd.prog 22 #[.pointer (some ⟨a, 0, none⟩), .pointer (some ⟨b, 0, none⟩), .pointer (some ⟨c, 0, none⟩)] w (GivesPost (rOpt has zero rs) w) := by
  cases has
  · cases zero
    · exact option1_bad h0 h1
    · exact option1_no h0 h1
  · exact option1_yes zero hn hn2 hn0 hf hP hl h0 h2
set_option maxRecDepth 100000 in
set_option maxHeartbeats 1000000 in
theorem option_mk {g n cap : Nat} {rs : List (Except Int (List UInt8))} {w : World} (has zero : Bool) (hn : n = rs.length) (hn2 : n ≤ 40) (hn0 : 0 < n) (hf : ∀ r ∈ rs, Few r) (hP : PartsB w g rs) :
    Calls Tryd.prog 9 #[.bool has, .bool zero, .slice (some ⟨g, 0, none⟩) n cap] w (MakesPost (rOpt has zero rs) w) := by
  have H := Lib.hid (fun (a b c : Nat) (w' : World) => option_clos (a := a) (b := b) (c := c) (g := g) (cap := cap) (w := w') has zero hn hn2 hn0 hf)
  have HP := Lib.hid hP
  clear hf hP
  go_enter Tryd.func9, Tryd.ntmps9
  go_wp2
  go_ret
  refine ⟨_, rfl, ⟨_, _, rfl, enters_of Tryd.func22 (by kernel_rfl) rfl, fun w' hb => ?_⟩, by (with_reducible (repeat' (first | exact Below.refl _ _ | assumption | apply bl_alloc | apply bl_drewN | apply bl_drew | refine bl_set ?_ ?_ _))) <;> (first | done | (simp; done) | (simp; omega) | omega)⟩
  have hs := hb.size
  simp at hs
  refine H.out _ _ _ w' (HP.out.below (Below.trans (by (with_reducible (repeat' (first | exact Below.refl _ _ | assumption | apply bl_alloc | apply bl_drewN | apply bl_drew | refine bl_set ?_ ?_ _))) <;> (first | done | (simp; done) | (simp; omega) | omega)) (hb.mono (by simp; omega)))) (by omega) ?_ ?_ ?_
  · rw [hb.cell (p := ⟨w.heap.size, 0, none⟩) (by simp; omega)]; simp [go_sem]
  · rw [hb.cell (p := ⟨w.heap.size + 1, 0, none⟩) (by simp)]; simp [go_sem]
  · rw [hb.cell (p := ⟨w.heap.size + 1 + 1, 0, none⟩) (by simp)]; simp [go_sem]; omega
end Go.Proofs.YtkaapdnjlmceoabDoor

/- attrs.told: a part, whatever is told; what it gives. -/
import Derived.Test.YtgmhapjidbdhnaaGreatJA
import Derived.Lib.AppendZeros
import Derived.LoopN
import Derived.Test.YtgmhapjidbdhnaaGreatJB
import Derived.Deep.RegionHeld3
import Derived.Deep.RegionHeld2
set_option linter.unusedVariables false
set_option linter.unusedSimpArgs false
namespace Go.Proofs.YtgmhapjidbdhnaaGreat
open Go.RowKit
set_option maxRecDepth 100000 in
set_option maxHeartbeats 2000000 in
theorem Grow_nil (n : Nat) (hn : 0 < n) (hn2 : n ≤ 4200000) (w : World) :
    Calls Tryz.prog 51 #[.slice none 0 0, .int .i64 n] w fun e w' => ∃ v, e = .returned v ∧ OwnB w' w.heap.size v [] ∧ Below w.heap.size w w' := by
  have hi := info_u8
  obtain ⟨i0, hi, hz⟩ : ∃ i0, Tryz.prog.info? 5 = some i0 ∧ (i0.zero, i0.size, i0.bytes) = (some (.int .u8 0), 1, 1) := by
    cases he : Tryz.prog.info? 5 with
    | none => rw [he] at hi; cases hi
    | some i0 => rw [he] at hi; exact ⟨i0, rfl, by simpa using hi⟩
  simp only [Prod.mk.injEq] at hz
  have hr := fun ty => Lib.run_append_nil_zeros w 24 3 ty 5 i0 (.int .u8 0) .i64 .i64 Tryz.underlying24 Tryz.underlying3 hi hz.1 n hn (by rw [hz.2.1]; omega) (by omega) (by rw [hz.2.2]; omega)
  have hge := grownCap_ge w n 0 5
  have hle := grownCap_le_maxLen w n 0 5 (by unfold maxLen; omega)
  obtain ⟨G, hG⟩ : ∃ G, G = grownCap w n 0 5 := ⟨_, rfl⟩
  have hsz : (Builtin.zeroCells (Value.int .u8 0).cells n ++ Builtin.zeroCells (Value.int .u8 0).cells (G - n)).size = G := by
    rw [Array.size_append, size_zeroCells, size_zeroCells]; show n * 1 + (G - n) * 1 = G; omega
  rw [← hG] at hr hge hle
  obtain ⟨cur, hcur⟩ : ∃ cur, Builtin.zeroCells (Value.int .u8 0).cells n ++ Builtin.zeroCells (Value.int .u8 0).cells (G - n) = cur := ⟨_, rfl⟩
  rw [hcur] at hr hsz
  have HS := Lib.hid hsz; have HL := Lib.hid hle
  simp only [maxLen] at hle
  clear hG hcur hi hz hsz
  go_enter Tryz.func51, Tryz.ntmps51
  go_wp2_with (at_builtin; refine Lib.wpList_append_run _ rfl _ _ _ _ rfl _ _ rfl rfl _ _ (hr _) ?_)
  go_ret
  refine ⟨_, rfl, ⟨rfl, .inr ⟨w.heap.size, G, cur, rfl, Nat.le_refl _, heap_alloc_new _ _, Nat.zero_le _, HL.out, by rw [HS.out]; simp, by simp [u8s]⟩⟩, by (with_reducible (repeat' (first | exact Below.refl _ _ | assumption | apply bl_alloc | apply bl_drewN | apply bl_drew | refine bl_set ?_ ?_ _))) <;> (first | done | (simp; done) | (simp; omega) | omega)⟩
theorem w64_one (n1 : Nat) (l1 : n1 ≤ 2000000) : wrap64 (n1 : Int) = n1 := by unfold wrap64; omega
theorem w64_two (n1 n2 : Nat) (l1 : n1 ≤ 2000000) (l2 : n2 ≤ 2000000) : wrap64 ((n1 : Int) + n2) = ((n1 + n2 : Nat) : Int) := by unfold wrap64; omega
set_option maxRecDepth 100000 in
set_option maxHeartbeats 2000000 in
theorem Concat_two (g : Nat) (v1 v2 : Value) (b1 b2 : Nat) (bs1 bs2 : List UInt8) (w : World) (hg : g < w.heap.size) (h1 : w.cell? ⟨g, 0, none⟩ = some v1) (h2 : w.cell? ⟨g, 1, none⟩ = some v2) (o1 : OwnB w b1 v1 bs1) (o2 : OwnB w b2 v2 bs2)
    (p1 : 0 < bs1.length) (p2 : 0 < bs2.length) (l1 : bs1.length ≤ 2000000) (l2 : bs2.length ≤ 2000000) :
    Calls Tryz.prog 27 #[.slice (some ⟨g, 0, none⟩) 2 2] w fun e w' => ∃ v, e = .returned v ∧ OwnB w' w.heap.size v (bs1 ++ bs2) ∧ Below w.heap.size w w' := by
  obtain ⟨g1, c1, rfl, hg1, hh1, hc1, hcc1, _⟩ := o1.slice p1
  obtain ⟨g2, c2, rfl, hg2, hh2, hc2, hcc2, _⟩ := o2.slice p2
  have P1 := Lib.hid p1; have P2 := Lib.hid p2; have L1 := Lib.hid l1; have L2 := Lib.hid l2
  have O1 := Lib.hid o1; have O2 := Lib.hid o2
  obtain ⟨n1, hn1⟩ : ∃ n1, bs1.length = n1 := ⟨_, rfl⟩
  obtain ⟨n2, hn2⟩ : ∃ n2, bs2.length = n2 := ⟨_, rfl⟩
  rw [hn1] at h1 O1 p1 l1 hc1; rw [hn2] at h2 O2 p2 l2 hc2
  have N1 := Lib.hid hn1; have N2 := Lib.hid hn2
  clear hn1 hn2 o1 o2 hg1 hg2 hh1 hh2 hc1 hc2 hcc1 hcc2
  have hw1 := w64_one n1 l1
  have hw2 := w64_two n1 n2 l1 l2
  have hneg : ¬ (((n1 + n2 : Nat) : Int) < 0) := by omega
  have hneg1 : ¬ ((n1 : Int) < 0) := by omega
  have hG : ∀ w, Calls Tryz.prog 51 #[.slice none 0 0, .int .i64 ((n1 : Int) + n2)] w fun e w' => ∃ v, e = .returned v ∧ OwnB w' w.heap.size v [] ∧ Below w.heap.size w w' := fun w => by
    have h := Grow_nil (n1 + n2) (by omega) (by omega) w
    simpa only [Int.natCast_add] using h
  have HG := Lib.hid hG; clear hG
  go_enter Tryz.func27, Tryz.ntmps27
  go_wp2_with fail
  refine wp_loop_rounds 3 ?_
  rw [rounds_succ]; go_wp2_with fail
  rw [rounds_succ]; go_wp2_with fail
  rw [rounds_succ]; go_wp2_with fail
  refine (HG.out _).mono ?_
  rintro e w1 ⟨v, rfl, ov, b1⟩
  have O1 := Lib.hid (O1.out.below b1)
  have hc0 : w1.cell? ⟨g, 0, none⟩ = _ := (b1.cell (p := ⟨g, 0, none⟩) hg).trans h1
  have hc1 : w1.cell? ⟨g, 1, none⟩ = _ := (b1.cell (p := ⟨g, 1, none⟩) hg).trans h2
  have hgl : g < w1.heap.size := Nat.lt_of_lt_of_le hg b1.size
  have hz := b1.size
  clear hw1 hw2 hneg hneg1 h1 h2
  go_wp2_with fail
  refine wp_loop_rounds 3 ?_
  rw [rounds_succ]
  go_wp2_with (at_builtin; refine wp_append_bytes rfl _ _ rfl rfl rfl ov O1.out P1.out (by have := L1.out; simp; omega) hz ?_; intro v1 w2 ov1 b2)
  have hc2 : w2.cell? ⟨g, 1, none⟩ = _ := (b2.cell (p := ⟨g, 1, none⟩) hg).trans hc1
  have hz2 : w.heap.size ≤ w2.heap.size := Nat.le_trans hz b2.size
  have O2 := Lib.hid (O2.out.below (b1.trans b2))
  rw [rounds_succ]
  go_wp2_with (at_builtin; refine wp_append_bytes rfl _ _ rfl rfl rfl ov1 O2.out P2.out (by have := L1.out; have := L2.out; simp; omega) hz2 ?_; intro v2 w3 ov2 b3)
  rw [rounds_succ]
  go_wp2_with fail
  go_ret
  exact ⟨_, rfl, by simpa using ov2, (b1.trans b2).trans b3⟩
end Go.Proofs.YtgmhapjidbdhnaaGreat
namespace Go.Proofs.YtgmhapjidbdhnaaGreat
open Go.RowKit
theorem GivesPost.ok {bs : List UInt8} {w w' : World} {e : Ending} (h : GivesPost (.ok bs) w e w') : ∃ v, e = .returned v ∧ OwnB w' w.heap.size v bs ∧ Below w.heap.size w w' := by
  obtain ⟨hb, ⟨_, v, h, rfl, o⟩ | ⟨_, h, _⟩⟩ := h
  · injection h with h; subst h; exact ⟨v, rfl, o, hb⟩
  · cases h
theorem GivesPost.err {er : Int} {w w' : World} {e : Ending} (h : GivesPost (.error er) w e w') : e = .panicked (wr er) ∧ Below w.heap.size w w' := by
  obtain ⟨hb, ⟨_, v, h, _⟩ | ⟨_, h, rfl⟩⟩ := h
  · cases h
  · injection h with h; subst h; exact ⟨rfl, hb⟩
/-- Yes, and the parts; no, if it is not had, and zero. -/
def rOpt (has zero : Bool) (rs : List (Except Int (List UInt8))) : Except Int (List UInt8) :=
  if (has || zero) = false then .error 1 else if has = false then .ok (putYes false) else match catP rs with | .error e => .error e | .ok b => .ok (putYes true ++ b)
section
variable {a b c g n cap : Nat} {rs : List (Except Int (List UInt8))} {w : World}
set_option maxRecDepth 100000 in
set_option maxHeartbeats 2000000 in
theorem option1_bad (h0 : w.cell? ⟨a, 0, none⟩ = some (.bool false)) (h1 : w.cell? ⟨b, 0, none⟩ = some (.bool false)) :
    Calls Tryz.prog 54 #[.pointer (some ⟨a, 0, none⟩), .pointer (some ⟨b, 0, none⟩), .pointer (some ⟨c, 0, none⟩)] w (GivesPost (.error 1) w) := by
  go_enter Tryz.func54, Tryz.ntmps54
  go_wp2_with (go_at_call 31; refine (must_no _ _).mono ?_; rintro e w' ⟨rfl, rfl⟩)
  exact ⟨rfl, by (with_reducible (repeat' (first | exact Below.refl _ _ | assumption | apply bl_alloc | apply bl_drewN | apply bl_drew | refine bl_set ?_ ?_ _))) <;> (first | done | (simp; done) | (simp; omega) | omega), .inr ⟨_, rfl, rfl⟩⟩
set_option maxRecDepth 100000 in
set_option maxHeartbeats 2000000 in
theorem option1_no (h0 : w.cell? ⟨a, 0, none⟩ = some (.bool false)) (h1 : w.cell? ⟨b, 0, none⟩ = some (.bool true)) :
    Calls Tryz.prog 54 #[.pointer (some ⟨a, 0, none⟩), .pointer (some ⟨b, 0, none⟩), .pointer (some ⟨c, 0, none⟩)] w (GivesPost (.ok (putYes false)) w) := by
  go_enter Tryz.func54, Tryz.ntmps54
  go_wp2_with (first
    | (go_at_call 31; refine (must_yes _ _).mono ?_; rintro e w' ⟨rfl, rfl⟩)
    | (go_at_call 55; refine (PutYes_any false _).mono ?_; rintro e w1 ⟨v, rfl, o, b1⟩))
  go_ret
  exact ⟨b1, .inl ⟨_, _, rfl, rfl, o⟩⟩
set_option maxRecDepth 100000 in
set_option maxHeartbeats 4000000 in
theorem option1_yes (zero : Bool) (hn : n = rs.length) (hn2 : n ≤ 40) (hn0 : 0 < n) (hf : ∀ r ∈ rs, Few r) (hP : PartsB w g rs) (hl : c < w.heap.size)
    (h0 : w.cell? ⟨a, 0, none⟩ = some (.bool true)) (h2 : w.cell? ⟨c, 0, none⟩ = some (.slice (some ⟨g, 0, none⟩) n cap)) :
    Calls Tryz.prog 54 #[.pointer (some ⟨a, 0, none⟩), .pointer (some ⟨b, 0, none⟩), .pointer (some ⟨c, 0, none⟩)] w (GivesPost (rOpt true zero rs) w) := by
  have HP := Lib.hid hP
  have HA := Lib.hid (fun w' h => all_any rs g n cap hn (by omega) hf w' h)
  have HY := Lib.hid (fun w' => PutYes_any true w')
  have hlen : ∀ bs, catP rs = .ok bs → 0 < bs.length ∧ bs.length ≤ 40000 := fun bs hb => by
    have h1 := catP_len hb 1000 (fun r hr c e => (hf r hr c e).2)
    refine ⟨?_, ?_⟩
    · cases rs with
      | nil => simp at hn; omega
      | cons r rs =>
        cases r with
        | error e => simp [catP] at hb
        | ok x =>
          have := (hf _ (List.mem_cons_self ..) x rfl).1
          simp only [catP] at hb
          cases hc : catP rs with
          | error e => rw [hc] at hb; cases hb
          | ok y => rw [hc] at hb; injection hb with hb; rw [← hb, List.length_append]; omega
    · rw [← hn] at h1; omega
  clear hP hf hn
  have HC := Lib.hid hlen
  clear hlen hn2 hn0
  go_enter Tryz.func54, Tryz.ntmps54
  go_wp2_with (first | (go_at_call 31; refine (must_yes _ _).mono ?_; rintro e w' ⟨rfl, rfl⟩))
  go_region_held2 (fun wx => wx.cell? ⟨c, 0, none⟩ = some (.slice (some ⟨g, 0, none⟩) n cap)) (go_keep) (first
    | (go_at_call 55; refine Calls.mono (HY.out _) ?_; rintro e w1 ⟨v1, rfl, o1, b1⟩; (obtain ⟨g1, cc1, rfl, hg1⟩ := o1.slice (by decide)); clear hg1; (obtain ⟨hcx, hfx⟩ := bcell b1); (have hB1 : Below w.heap.size w w1 := bl_then (by (with_reducible (repeat' (first | exact Below.refl _ _ | assumption | apply bl_alloc | apply bl_drewN | apply bl_drew | refine bl_set ?_ ?_ _))) <;> (first | done | (simp; done) | (simp; omega) | omega)) b1); (have hz1 := b1.size); (try simp at hz1); (have hz1' : c < w1.heap.size := (by omega)); (have hk1 : w1.cell? ⟨c, 0, none⟩ = some (.slice (some ⟨g, 0, none⟩) n cap) := (hcx _ 0 (by simp; omega)).trans (by simp [go_sem, h2])))
    | (go_at_call 32; refine Calls.mono (HA.out _ (HP.out.below (by (with_reducible (repeat' (first | exact Below.refl _ _ | assumption | apply bl_alloc | apply bl_drewN | apply bl_drew | refine bl_set ?_ ?_ _))) <;> (first | done | (simp; done) | (simp; omega) | omega)))) ?_; rintro e w2 ⟨b2, ⟨bs, v2, hr, rfl, o2⟩ | ⟨er, hr, rfl⟩⟩; rotate_left; ((have hb2 : Below w.heap.size w w2 := bl_then (by (with_reducible (repeat' (first | exact Below.refl _ _ | assumption | apply bl_alloc | apply bl_drewN | apply bl_drew | refine bl_set ?_ ?_ _))) <;> (first | done | (simp; done) | (simp; omega) | omega)) b2); exact ⟨rfl, hb2, .inr ⟨er, by simp [rOpt, hr], rfl⟩⟩); ((obtain ⟨g2, cc2, rfl, hg2⟩ := o2.slice (HC.out _ hr).1); clear hg2; (obtain ⟨hcx, hfx⟩ := bcell b2); (have hB2 : Below w.heap.size w w2 := bl_then (by (with_reducible (repeat' (first | exact Below.refl _ _ | assumption | apply bl_alloc | apply bl_drewN | apply bl_drew | refine bl_set ?_ ?_ _))) <;> (first | done | (simp; done) | (simp; omega) | omega)) b2); (have hz2 := b2.size); (try simp at hz2); (have hz2' : c < w2.heap.size := (by omega)); (have hk2 : w2.cell? ⟨c, 0, none⟩ = some (.slice (some ⟨g, 0, none⟩) n cap) := (hcx _ 0 (by first | assumption | (simp; omega))).trans (by first | exact hk1 | (simp [go_sem, h2]))); (have HR := Lib.hid hr); clear hr))
    | (go_at_call 27; refine Calls.mono (Concat_two _ (.slice (some ⟨g1, 0, none⟩) (putYes true).length cc1) (.slice (some ⟨g2, 0, none⟩) bs.length cc2) _ _ (putYes true) bs _ (by simp) (by simp [go_sem]) (by simp [go_sem]) (o1.below (by (with_reducible (repeat' (first | exact Below.refl _ _ | assumption | apply bl_alloc | apply bl_drewN | apply bl_drew | refine bl_set ?_ ?_ _))) <;> (first | done | (simp; done) | (simp; omega) | omega))) (o2.below (by (with_reducible (repeat' (first | exact Below.refl _ _ | assumption | apply bl_alloc | apply bl_drewN | apply bl_drew | refine bl_set ?_ ?_ _))) <;> (first | done | (simp; done) | (simp; omega) | omega))) (by decide) (HC.out _ HR.out).1 (by decide) (by have := (HC.out _ HR.out).2; omega)) ?_; rintro e w3 ⟨v3, rfl, o3, b3⟩; (have hB3 : Below w.heap.size w w3 := bl_then (by (with_reducible (repeat' (first | exact Below.refl _ _ | assumption | apply bl_alloc | apply bl_drewN | apply bl_drew | refine bl_set ?_ ?_ _))) <;> (first | done | (simp; done) | (simp; omega) | omega)) b3); (have hk3 : w3.cell? ⟨c, 0, none⟩ = some (.slice (some ⟨g, 0, none⟩) n cap) := (hB3.cell (p := ⟨c, 0, none⟩) hl).trans h2); (have hz4 := b3.size); (try simp at hz4)))
  go_wp2
  go_ret
  refine ⟨hB3, .inl ⟨_, _, ?_, rfl, o3.mono (by simp; omega)⟩⟩
  simp [rOpt, HR.out]
end
theorem few_opt (has zero : Bool) (rs : List (Except Int (List UInt8))) (hf : ∀ r ∈ rs, ∀ c, r = .ok c → c.length ≤ 100) (hn : rs.length ≤ 3) : Few (rOpt has zero rs) := fun c h => by
  unfold rOpt at h
  split at h
  · cases h
  · split at h
    · injection h with h; subst h; simp [putYes]
    · split at h
      · cases h
      · rename_i b hb
        injection h with h; subst h
        have h1 := catP_len hb 100 hf
        rw [List.length_append]
        have : (putYes true).length = 4 := rfl
        omega
theorem option_clos {a b c g n cap : Nat} {rs : List (Except Int (List UInt8))} {w : World} (has zero : Bool) (hn : n = rs.length) (hn2 : n ≤ 40) (hn0 : 0 < n) (hf : ∀ r ∈ rs, Few r) (hP : PartsB w g rs) (hl : c < w.heap.size)
    (h0 : w.cell? ⟨a, 0, none⟩ = some (.bool has)) (h1 : w.cell? ⟨b, 0, none⟩ = some (.bool zero)) (h2 : w.cell? ⟨c, 0, none⟩ = some (.slice (some ⟨g, 0, none⟩) n cap)) :
    Calls Tryz.prog 54 #[.pointer (some ⟨a, 0, none⟩), .pointer (some ⟨b, 0, none⟩), .pointer (some ⟨c, 0, none⟩)] w (GivesPost (rOpt has zero rs) w) := by
  cases has
  · cases zero
    · exact option1_bad h0 h1
    · exact option1_no h0 h1
  · exact option1_yes zero hn hn2 hn0 hf hP hl h0 h2
set_option maxRecDepth 100000 in
set_option maxHeartbeats 1000000 in
theorem option_mk {g n cap : Nat} {rs : List (Except Int (List UInt8))} {w : World} (has zero : Bool) (hn : n = rs.length) (hn2 : n ≤ 40) (hn0 : 0 < n) (hf : ∀ r ∈ rs, Few r) (hP : PartsB w g rs) :
    Calls Tryz.prog 33 #[.bool has, .bool zero, .slice (some ⟨g, 0, none⟩) n cap] w (MakesPost (rOpt has zero rs) w) := by
  have H := Lib.hid (fun (a b c : Nat) (w' : World) => option_clos (a := a) (b := b) (c := c) (g := g) (cap := cap) (w := w') has zero hn hn2 hn0 hf)
  have HP := Lib.hid hP
  clear hf hP
  go_enter Tryz.func33, Tryz.ntmps33
  go_wp2
  go_ret
  refine ⟨_, rfl, ⟨_, _, rfl, enters_of Tryz.func54 (by kernel_rfl) rfl, fun w' hb => ?_⟩, by (with_reducible (repeat' (first | exact Below.refl _ _ | assumption | apply bl_alloc | apply bl_drewN | apply bl_drew | refine bl_set ?_ ?_ _))) <;> (first | done | (simp; done) | (simp; omega) | omega)⟩
  have hs := hb.size
  simp at hs
  refine H.out _ _ _ w' (HP.out.below (Below.trans (by (with_reducible (repeat' (first | exact Below.refl _ _ | assumption | apply bl_alloc | apply bl_drewN | apply bl_drew | refine bl_set ?_ ?_ _))) <;> (first | done | (simp; done) | (simp; omega) | omega)) (hb.mono (by simp; omega)))) (by omega) ?_ ?_ ?_
  · rw [hb.cell (p := ⟨w.heap.size, 0, none⟩) (by simp; omega)]; simp [go_sem]
  · rw [hb.cell (p := ⟨w.heap.size + 1, 0, none⟩) (by simp)]; simp [go_sem]
  · rw [hb.cell (p := ⟨w.heap.size + 1 + 1, 0, none⟩) (by simp)]; simp [go_sem]; omega
end Go.Proofs.YtgmhapjidbdhnaaGreat
namespace Go.Proofs.YtgmhapjidbdhnaaGreat
open Go.RowKit
theorem MakesPost.get {r : Except Int (List UInt8)} {w w' : World} {e : Ending} (h : MakesPost r w e w') : ∃ f cp, e = .returned (.func (.func f) #[] cp) ∧ Gives w' (.func (.func f) #[] cp) r ∧ Below w.heap.size w w' := by
  obtain ⟨fv, rfl, hg, hb⟩ := h
  obtain ⟨f, cp, rfl, _⟩ := id hg
  exact ⟨f, cp, rfl, hg, hb⟩
theorem PartsB.new {w : World} {t : TypeId} (l : List (Value × Except Int (List UInt8))) (h : ∀ p ∈ l, Gives w p.1 p.2) : PartsB (w.alloc (.cells (l.map (·.1)).toArray t)) w.heap.size (l.map (·.2)) := by
  intro i hi
  have hi' : i < l.length := by simpa using hi
  refine ⟨l[i].1, by simp, ?_, ?_⟩
  · simp [go_sem, List.getElem?_eq_getElem hi']
  · have := (h l[i] (List.getElem_mem hi')).below ((Below.refl _ w).alloc (Nat.le_refl _) (.cells (l.map (·.1)).toArray t))
    simpa using this
/-- How a time is set, as a part. -/
def rHow (h : Nat) (t : Tm) : Except Int (List UInt8) := if (decide (h ≤ 2) && (h == 2 || t == ⟨0, 0⟩)) = false then .error 1 else if h = 2 then catP [.ok (put4 h), rTime t] else .ok (put4 h)
section
variable {a b : Nat} {h : Nat} {t : Tm} {w : World}
set_option maxRecDepth 100000 in
set_option maxHeartbeats 2000000 in
theorem how1_two (ht : t.wf) (hl : a < w.heap.size) (hl2 : b < w.heap.size) (h0 : w.cell? ⟨a, 0, none⟩ = some (.int .u32 2)) (h1 : w.cell? ⟨b, 0, none⟩ = some (.int .u32 t.sec)) (h2 : w.cell? ⟨b, 1, none⟩ = some (.int .u32 t.nano)) :
    Calls Tryz.prog 58 #[.pointer (some ⟨a, 0, none⟩), .pointer (some ⟨b, 0, none⟩)] w (GivesPost (catP [.ok (put4 2), rTime t]) w) := by
  have HA := Lib.hid (fun g cap w' => all_any [.ok (put4 2), rTime t] g 2 cap rfl (by decide) (by intro r hr; simp only [List.mem_cons, List.not_mem_nil, or_false] at hr; rcases hr with rfl | rfl; exact few_put4 _; exact few_time _) w')
  go_enter Tryz.func58, Tryz.ntmps58
  go_wp2_with (first | (go_at_call 31; refine (must_yes _ _).mono ?_; rintro e w' ⟨rfl, rfl⟩))
  have hP : w.cell? ⟨a, 0, none⟩ = some (.int .u32 2) ∧ w.cell? ⟨b, 0, none⟩ = some (.int .u32 t.sec) ∧ w.cell? ⟨b, 1, none⟩ = some (.int .u32 t.nano) := ⟨h0, h1, h2⟩
  have HP := Lib.hid hP
  clear hP
  go_region_held2 (fun wx => wx.cell? ⟨a, 0, none⟩ = some (.int .u32 2) ∧ wx.cell? ⟨b, 0, none⟩ = some (.int .u32 t.sec) ∧ wx.cell? ⟨b, 1, none⟩ = some (.int .u32 t.nano)) (go_keep) (first
    | (go_at_call 34; refine Calls.mono (number_mk 2 (by decide) _) ?_; rintro e w1 hm; (obtain ⟨f1, cp1, rfl, G1, b1⟩ := hm.get); clear hm; (have hB1 : Below w.heap.size w w1 := bl_then (by (with_reducible (repeat' (first | exact Below.refl _ _ | assumption | apply bl_alloc | apply bl_drewN | apply bl_drew | refine bl_set ?_ ?_ _))) <;> (first | done | (simp; done) | (simp; omega) | omega)) b1); (have hk0 : w1.cell? ⟨a, 0, none⟩ = _ := (hB1.cell (p := ⟨a, 0, none⟩) hl).trans HP.out.1); (have hk1 : w1.cell? ⟨b, 0, none⟩ = _ := (hB1.cell (p := ⟨b, 0, none⟩) hl2).trans HP.out.2.1); (have hk2 : w1.cell? ⟨b, 1, none⟩ = _ := (hB1.cell (p := ⟨b, 1, none⟩) hl2).trans HP.out.2.2); (have hz1 := hB1.size))
    | (go_at_call 59; refine Calls.mono (time_mk t ht _) ?_; rintro e w2 hm; (obtain ⟨f2, cp2, rfl, G2, b2⟩ := hm.get); clear hm; (have hB2 : Below w.heap.size w w2 := bl_then (by (with_reducible (repeat' (first | exact Below.refl _ _ | assumption | apply bl_alloc | apply bl_drewN | apply bl_drew | refine bl_set ?_ ?_ _))) <;> (first | done | (simp; done) | (simp; omega) | omega)) b2); (have hk0 : w2.cell? ⟨a, 0, none⟩ = _ := (hB2.cell (p := ⟨a, 0, none⟩) hl).trans HP.out.1); (have hk1 : w2.cell? ⟨b, 0, none⟩ = _ := (hB2.cell (p := ⟨b, 0, none⟩) hl2).trans HP.out.2.1); (have hk2 : w2.cell? ⟨b, 1, none⟩ = _ := (hB2.cell (p := ⟨b, 1, none⟩) hl2).trans HP.out.2.2); (have hz2 := hB2.size); (have hal : a < w2.heap.size := (by omega)); (have hbl : b < w2.heap.size := (by omega)))
    | (go_at_call 32; refine Calls.mono (HA.out _ _ _ (PartsB.new [(.func (.func f1) #[] cp1, .ok (put4 2)), (.func (.func f2) #[] cp2, rTime t)] (by intro p hp; simp only [List.mem_cons, List.not_mem_nil, or_false] at hp; rcases hp with rfl | rfl; exact G1.below (by (with_reducible (repeat' (first | exact Below.refl _ _ | assumption | apply bl_alloc | apply bl_drewN | apply bl_drew | refine bl_set ?_ ?_ _))) <;> (first | done | (simp; done) | (simp; omega) | omega)); exact G2))) ?_; rintro e w3 ⟨b3, ⟨bs, v3, hr, rfl, o3⟩ | ⟨er, hr, rfl⟩⟩; rotate_left; ((have hb3 : Below w.heap.size w w3 := bl_then (by (with_reducible (repeat' (first | exact Below.refl _ _ | assumption | apply bl_alloc | apply bl_drewN | apply bl_drew | refine bl_set ?_ ?_ _))) <;> (first | done | (simp; done) | (simp; omega) | omega)) b3); exact ⟨rfl, hb3, .inr ⟨er, hr, rfl⟩⟩); ((have hB3 : Below w.heap.size w w3 := bl_then (by (with_reducible (repeat' (first | exact Below.refl _ _ | assumption | apply bl_alloc | apply bl_drewN | apply bl_drew | refine bl_set ?_ ?_ _))) <;> (first | done | (simp; done) | (simp; omega) | omega)) b3); (have hk0 : w3.cell? ⟨a, 0, none⟩ = _ := (hB3.cell (p := ⟨a, 0, none⟩) hl).trans HP.out.1); (have hk1 : w3.cell? ⟨b, 0, none⟩ = _ := (hB3.cell (p := ⟨b, 0, none⟩) hl2).trans HP.out.2.1); (have hk2 : w3.cell? ⟨b, 1, none⟩ = _ := (hB3.cell (p := ⟨b, 1, none⟩) hl2).trans HP.out.2.2); (have hz3 := b3.size); (try simp at hz3); (have HR := Lib.hid hr); clear hr)))
  go_wp2
  go_ret
  exact ⟨hB3, .inl ⟨_, _, HR.out, rfl, o3.mono (by simp; omega)⟩⟩
set_option maxRecDepth 100000 in
set_option maxHeartbeats 2000000 in
theorem how1_big (hh : 2 < h) (h0 : w.cell? ⟨a, 0, none⟩ = some (.int .u32 h)) :
    Calls Tryz.prog 58 #[.pointer (some ⟨a, 0, none⟩), .pointer (some ⟨b, 0, none⟩)] w (GivesPost (.error 1) w) := by
  go_enter Tryz.func58, Tryz.ntmps58
  go_wp2_with (first | (go_at_call 31; refine (must_no _ _).mono ?_; rintro e w' ⟨rfl, rfl⟩))
  exact ⟨rfl, by (with_reducible (repeat' (first | exact Below.refl _ _ | assumption | apply bl_alloc | apply bl_drewN | apply bl_drew | refine bl_set ?_ ?_ _))) <;> (first | done | (simp; done) | (simp; omega) | omega), .inr ⟨_, rfl, rfl⟩⟩
set_option maxRecDepth 100000 in
set_option maxHeartbeats 2000000 in
theorem how1_small (hh : h < 2) (h0 : w.cell? ⟨a, 0, none⟩ = some (.int .u32 h)) (h1 : w.cell? ⟨b, 0, none⟩ = some (.int .u32 0)) (h2 : w.cell? ⟨b, 1, none⟩ = some (.int .u32 0)) :
    Calls Tryz.prog 58 #[.pointer (some ⟨a, 0, none⟩), .pointer (some ⟨b, 0, none⟩)] w (GivesPost (.ok (put4 h)) w) := by
  have hne : (((h : Int) == 2)) = false := by simp; omega
  go_enter Tryz.func58, Tryz.ntmps58
  go_wp2_with (first
    | (go_at_call 31; refine (must_yes _ _).mono ?_; rintro e w' ⟨rfl, rfl⟩)
    | (go_at_call 20; refine (Put_any h (by omega) _).mono ?_; rintro e w1 ⟨v, rfl, o, b1⟩))
  go_ret
  exact ⟨b1, .inl ⟨_, _, rfl, rfl, o⟩⟩
set_option maxRecDepth 100000 in
set_option maxHeartbeats 2000000 in
theorem how1_odd (hh : h < 2) (hz : ¬ (t.sec = 0 ∧ t.nano = 0)) (h0 : w.cell? ⟨a, 0, none⟩ = some (.int .u32 h)) (h1 : w.cell? ⟨b, 0, none⟩ = some (.int .u32 t.sec)) (h2 : w.cell? ⟨b, 1, none⟩ = some (.int .u32 t.nano)) :
    Calls Tryz.prog 58 #[.pointer (some ⟨a, 0, none⟩), .pointer (some ⟨b, 0, none⟩)] w (GivesPost (.error 1) w) := by
  have hne : (((h : Int) == 2)) = false := by simp; omega
  go_enter Tryz.func58, Tryz.ntmps58
  go_wp2_with (first | (go_at_call 31; refine (must_no _ _).mono ?_; rintro e w' ⟨rfl, rfl⟩))
  all_goals exact ⟨rfl, by (with_reducible (repeat' (first | exact Below.refl _ _ | assumption | apply bl_alloc | apply bl_drewN | apply bl_drew | refine bl_set ?_ ?_ _))) <;> (first | done | (simp; done) | (simp; omega) | omega), .inr ⟨_, rfl, rfl⟩⟩
theorem how_clos (ht : t.wf) (hl : a < w.heap.size) (hl2 : b < w.heap.size) (h0 : w.cell? ⟨a, 0, none⟩ = some (.int .u32 h)) (h1 : w.cell? ⟨b, 0, none⟩ = some (.int .u32 t.sec)) (h2 : w.cell? ⟨b, 1, none⟩ = some (.int .u32 t.nano)) :
    Calls Tryz.prog 58 #[.pointer (some ⟨a, 0, none⟩), .pointer (some ⟨b, 0, none⟩)] w (GivesPost (rHow h t) w) := by
  rcases Nat.lt_trichotomy h 2 with hh | rfl | hh
  · by_cases hz : t.sec = 0 ∧ t.nano = 0
    · obtain ⟨s, m⟩ := t
      obtain ⟨rfl, rfl⟩ := hz
      have e : rHow h ⟨0, 0⟩ = .ok (put4 h) := by
        have h1 : h ≤ 2 := by omega
        have h2 : h ≠ 2 := by omega
        simp [rHow, h1, h2]
      rw [e]
      exact how1_small hh h0 h1 h2
    · have e : rHow h t = .error 1 := by
        have h1 : h ≤ 2 := by omega
        have h2 : h ≠ 2 := by omega
        have h3 : (t == (⟨0, 0⟩ : Tm)) = false := by
          rw [beq_eq_false_iff_ne]; rintro rfl; exact hz ⟨rfl, rfl⟩
        simp [rHow, h1, h2, h3]
      rw [e]
      exact how1_odd hh hz h0 h1 h2
  · have e : rHow 2 t = catP [.ok (put4 2), rTime t] := by simp [rHow]
    rw [e]
    exact how1_two ht hl hl2 h0 h1 h2
  · have e : rHow h t = .error 1 := by
      have h1 : ¬ h ≤ 2 := by omega
      simp [rHow, h1]
    rw [e]
    exact how1_big hh h0
end
theorem few_how (h : Nat) (t : Tm) : Few (rHow h t) := fun c hc => by
  unfold rHow at hc
  split at hc
  · cases hc
  · split at hc
    · unfold rTime at hc
      split at hc
      · simp only [catP] at hc
        injection hc with hc; subst hc; simp [putTm_length]
      · simp [catP] at hc
    · injection hc with hc; subst hc; simp
set_option maxRecDepth 100000 in
set_option maxHeartbeats 1000000 in
theorem how_mk {h : Nat} {t : Tm} {w : World} (ht : t.wf) : Calls Tryz.prog 36 #[.int .u32 h, .agg #[.int .u32 t.sec, .int .u32 t.nano]] w (MakesPost (rHow h t) w) := by
  go_enter Tryz.func36, Tryz.ntmps36
  go_wp2
  go_ret
  refine ⟨_, rfl, ⟨_, _, rfl, enters_of Tryz.func58 (by kernel_rfl) rfl, fun w' hb => ?_⟩, by (with_reducible (repeat' (first | exact Below.refl _ _ | assumption | apply bl_alloc | apply bl_drewN | apply bl_drew | refine bl_set ?_ ?_ _))) <;> (first | done | (simp; done) | (simp; omega) | omega)⟩
  have hs := hb.size
  simp at hs
  refine how_clos ht (by omega) (by omega) ?_ ?_ ?_
  · rw [hb.cell (p := ⟨w.heap.size, 0, none⟩) (by simp; omega)]; simp [go_sem]
  · rw [hb.cell (p := ⟨w.heap.size + 1, 0, none⟩) (by simp)]; simp [go_sem]
  · rw [hb.cell (p := ⟨w.heap.size + 1, 1, none⟩) (by simp)]; simp [go_sem]
end Go.Proofs.YtgmhapjidbdhnaaGreat
namespace Go.Proofs.YtgmhapjidbdhnaaGreat
open Go.RowKit
/-- Some parts, each with what it gives. -/
def GL (w : World) (l : List (Value × Except Int (List UInt8))) : Prop := ∀ p ∈ l, Gives w p.1 p.2
theorem GL.nil (w : World) : GL w [] := fun p h => by cases h
theorem GL.below {w w' : World} {l : List (Value × Except Int (List UInt8))} (h : GL w l) (b : Below w.heap.size w w') : GL w' l := fun p hp => (h p hp).below b
theorem GL.snoc {w w' : World} {l : List (Value × Except Int (List UInt8))} (h : GL w l) (b : Below w.heap.size w w') {fv : Value} {r : Except Int (List UInt8)} (g : Gives w' fv r) : GL w' (l ++ [(fv, r)]) := by
  intro p hp
  rcases List.mem_append.1 hp with hp | hp
  · exact h.below b p hp
  · simp only [List.mem_cons, List.not_mem_nil, or_false] at hp
    subst hp; exact g
/-- The parts of what is told of a node. -/
def toldL (a : At) : List (Except Int (List UInt8)) := [.ok (put4 a.kind), .ok (put4 a.mode), .ok (put4 a.links), .ok (put4 a.user), .ok (put4 a.group), .ok (put8 a.size), .ok (put8 a.used), .ok (put8 0), .ok (put8 1), .ok (put8 a.id), rTime a.read, rTime a.write, rTime a.turn]
def rTold (a : At) : Except Int (List UInt8) := if kindOk a.kind a.mode then catP (toldL a) else .error 1
theorem few_toldL (a : At) : ∀ r ∈ toldL a, Few r := by
  intro r hr
  simp only [toldL, List.mem_cons, List.not_mem_nil, or_false] at hr
  rcases hr with rfl | rfl | rfl | rfl | rfl | rfl | rfl | rfl | rfl | rfl | rfl | rfl | rfl
  all_goals first | exact few_put4 _ | exact few_put8 _ | exact few_time _
theorem long_mk0 (w : World) : Calls Tryz.prog 35 #[.int .u64 0] w (MakesPost (.ok (put8 0)) w) := long_mk 0 (by decide) w
theorem long_mk1 (w : World) : Calls Tryz.prog 35 #[.int .u64 1] w (MakesPost (.ok (put8 1)) w) := long_mk 1 (by decide) w
theorem all_told (a : At) (g cap : Nat) (w' : World) (h : PartsB w' g (toldL a)) : Calls Tryz.prog 32 #[.slice (some ⟨g, 0, none⟩) 13 cap] w' (GivesPost (catP (toldL a)) w') :=
  all_any (toldL a) g 13 cap rfl (by omega) (few_toldL a) w' h
section
variable {g : Nat} {a : At} {w : World}
end
end Go.Proofs.YtgmhapjidbdhnaaGreat
namespace Go.Proofs.YtgmhapjidbdhnaaGreat
open Go.RowKit
section
variable {g : Nat} {a : At} {w : World}
end
/-- What is told of a node, as a part: its bytes, or the error. -/
theorem rTold_eq (a : At) : rTold a = if a.may then .ok (putAt a) else .error 1 := by
  unfold rTold At.may
  cases hk : kindOk a.kind a.mode
  · simp
  · simp only [toldL, rTime]
    cases h1 : a.read.ok
    · simp [catP]
    · cases h2 : a.write.ok
      · simp [catP]
      · cases h3 : a.turn.ok
        · simp [catP]
        · simp [catP, putAt, At.headB, At.head]
theorem putAt_length (a : At) : (putAt a).length = 84 := by
  simp [putAt, At.headB, At.head, putTm_length]
theorem few_told (a : At) : Few (rTold a) := fun c hc => by
  rw [rTold_eq] at hc
  split at hc
  · injection hc with hc; subst hc; rw [putAt_length]; omega
  · cases hc
end Go.Proofs.YtgmhapjidbdhnaaGreat

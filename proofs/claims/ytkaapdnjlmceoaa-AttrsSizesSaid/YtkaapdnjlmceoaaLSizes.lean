/- AttrsSizes: the law's walk. Printed by gen_laws10.py. -/
import Derived.Test.YtkaapdnjlmceoaaAlive
import Derived.Test.YtkaapdnjlmceoaaSizes
import Derived.Test.YtkaapdnjlmceoaaLMay
set_option linter.unusedVariables false
set_option linter.unusedSimpArgs false
namespace Go.Proofs.Ytkaapdnjlmceoaa
open Go.RowKit

section
variable {w : World}
theorem setN_cast (s : St) : (setN s : Int) = 24 + (if s.hasMode = true then 4 else 0) + (if s.hasUser = true then 4 else 0) + (if s.hasGroup = true then 4 else 0) + (if s.hasSize = true then 8 else 0) + (if s.readHow = 2 then 8 else 0) + (if s.writeHow = 2 then 8 else 0) := by
  unfold setN
  split <;> split <;> split <;> split <;> split <;> split <;> rfl
theorem PutPost.two {r : Except Int (List UInt8)} {w w' : World} {e : Ending} (h : PutPost r w e w') (h1 : Err1 r) : Below w.heap.size w w' ∧ ((∃ bs A cap, r = .ok bs ∧ e = .returned (.tuple #[.slice A bs.length cap, .int .i64 0]) ∧ bs.length ≤ cap ∧ cap ≤ 9223372036854775807 ∧ Bs w' A bs.length bs ∧ OwnB w' w.heap.size (.slice A bs.length cap) bs) ∨ (r = .error 1 ∧ e = .returned (.tuple #[.slice none 0 0, .int .i64 1]))) := by
  obtain ⟨hb, ⟨bs, v, e1, e2, o⟩ | ⟨er, e1, e2⟩⟩ := h
  · obtain ⟨A, c, rfl, hc, hm, hB⟩ := o.reads
    exact ⟨hb, .inl ⟨bs, A, c, e1, e2, hc, hm, hB, o⟩⟩
  · have := h1 er e1
    subst this
    exact ⟨hb, .inr ⟨e1, e2⟩⟩
set_option maxRecDepth 100000 in
set_option maxHeartbeats 4000000 in
theorem LAttrsSizes {s : St} (hs : s.wf) : Calls Try.prog 8 #[eSet s] w fun e w' => e = .returned (.bool true) ∧ Below w.heap.size w w' := by
  have HP := Lib.hid (fun w => PutSet_any (w := w) hs)
  have HL := Lib.hid (Len.set s)
  have HE := Lib.hid (Err1.set s)
  clear hs
  simp only [eSet, St.cells] at HP ⊢
  go_enter Try.func8, Try.ntmps8
  have oA := OwnL.made w [Value.bool s.hasMode, .int .u32 s.mode, .bool s.hasUser, .int .u32 s.user, .bool s.hasGroup, .int .u32 s.group, .bool s.hasSize, .int .u64 s.size, .int .u32 s.readHow, .int .u32 s.read.sec, .int .u32 s.read.nano, .int .u32 s.writeHow, .int .u32 s.write.sec, .int .u32 s.write.nano] 39
  go_upto_region 2 with (go_at_call 25; refine Calls.mono (HP.out _) ?_; intro e w1 hp; obtain ⟨b1, hp⟩ := hp.two HE.out; (try have oA := OwnL.trk oA (bl_then (by (with_reducible (repeat' (first | exact Below.refl _ _ | assumption | apply bl_alloc | apply bl_drewN | apply bl_drew | refine bl_set ?_ ?_ _))) <;> (first | done | (simp; done) | (simp; omega) | omega)) b1)); (try have oB := OwnL.trk oB (bl_then (by (with_reducible (repeat' (first | exact Below.refl _ _ | assumption | apply bl_alloc | apply bl_drewN | apply bl_drew | refine bl_set ?_ ?_ _))) <;> (first | done | (simp; done) | (simp; omega) | omega)) b1)); (try have oC := OwnL.trk oC (bl_then (by (with_reducible (repeat' (first | exact Below.refl _ _ | assumption | apply bl_alloc | apply bl_drewN | apply bl_drew | refine bl_set ?_ ?_ _))) <;> (first | done | (simp; done) | (simp; omega) | omega)) b1)); (try have oD := OwnL.trk oD (bl_then (by (with_reducible (repeat' (first | exact Below.refl _ _ | assumption | apply bl_alloc | apply bl_drewN | apply bl_drew | refine bl_set ?_ ?_ _))) <;> (first | done | (simp; done) | (simp; omega) | omega)) b1)); (try have HX := Lib.hid (HX.out.below (bl_then (by (with_reducible (repeat' (first | exact Below.refl _ _ | assumption | apply bl_alloc | apply bl_drewN | apply bl_drew | refine bl_set ?_ ?_ _))) <;> (first | done | (simp; done) | (simp; omega) | omega)) b1))); (try have HX1 := Lib.hid (HX1.out.below (bl_then (by (with_reducible (repeat' (first | exact Below.refl _ _ | assumption | apply bl_alloc | apply bl_drewN | apply bl_drew | refine bl_set ?_ ?_ _))) <;> (first | done | (simp; done) | (simp; omega) | omega)) b1))); (try have HX2 := Lib.hid (HX2.out.below (bl_then (by (with_reducible (repeat' (first | exact Below.refl _ _ | assumption | apply bl_alloc | apply bl_drewN | apply bl_drew | refine bl_set ?_ ?_ _))) <;> (first | done | (simp; done) | (simp; omega) | omega)) b1))); (try have HX3 := Lib.hid (HX3.out.below (bl_then (by (with_reducible (repeat' (first | exact Below.refl _ _ | assumption | apply bl_alloc | apply bl_drewN | apply bl_drew | refine bl_set ?_ ?_ _))) <;> (first | done | (simp; done) | (simp; omega) | omega)) b1))); (try have HX4 := Lib.hid (HX4.out.below (bl_then (by (with_reducible (repeat' (first | exact Below.refl _ _ | assumption | apply bl_alloc | apply bl_drewN | apply bl_drew | refine bl_set ?_ ?_ _))) <;> (first | done | (simp; done) | (simp; omega) | omega)) b1))); (try have HO := Lib.hid (HO.out.below (bl_then (by (with_reducible (repeat' (first | exact Below.refl _ _ | assumption | apply bl_alloc | apply bl_drewN | apply bl_drew | refine bl_set ?_ ?_ _))) <;> (first | done | (simp; done) | (simp; omega) | omega)) b1))); (try have HO1 := Lib.hid (HO1.out.below (bl_then (by (with_reducible (repeat' (first | exact Below.refl _ _ | assumption | apply bl_alloc | apply bl_drewN | apply bl_drew | refine bl_set ?_ ?_ _))) <;> (first | done | (simp; done) | (simp; omega) | omega)) b1))); (try have HO2 := Lib.hid (HO2.out.below (bl_then (by (with_reducible (repeat' (first | exact Below.refl _ _ | assumption | apply bl_alloc | apply bl_drewN | apply bl_drew | refine bl_set ?_ ?_ _))) <;> (first | done | (simp; done) | (simp; omega) | omega)) b1))); (try have HO3 := Lib.hid (HO3.out.below (bl_then (by (with_reducible (repeat' (first | exact Below.refl _ _ | assumption | apply bl_alloc | apply bl_drewN | apply bl_drew | refine bl_set ?_ ?_ _))) <;> (first | done | (simp; done) | (simp; omega) | omega)) b1))); (have hB : Below w.heap.size w _ := bl_then (by (with_reducible (repeat' (first | exact Below.refl _ _ | assumption | apply bl_alloc | apply bl_drewN | apply bl_drew | refine bl_set ?_ ?_ _))) <;> (first | done | (simp; done) | (simp; omega) | omega)) b1); (try have hA := oA.2.1); (try have hAB := oB.2.1); clear b1; rcases hp with ⟨bs, A, cap, hr, rfl, hcap, hmax, _, _⟩ | ⟨hr, rfl⟩)
  · have hn := Lib.hid (HL.out _ hr)
    have hbl : bs.length ≤ 60 := by rw [hn.out]; exact (setN_le s).2.1
    have hr := Lib.hid hr
    clear HP HE HL
    go_upto_region 4 with fail
    go_upto_if 19 with fail
    go_cut [0, 5] from 6 (fun s0 s5 wx => (∃ c : Int, s5 = .int .i64 c ∧ Hid (c = 24 + (if s.hasMode = true then 4 else 0)) ∧ 24 ≤ c ∧ c ≤ 28) ∧ w1 = wx)
    case first =>
      rcases hb : s.hasMode with _ | _
      · have hnb := Lib.hid (show ¬ (s.hasMode = true) from by rw [hb]; simp)
        go_wp2_with fail
        go_meet
        exact ⟨⟨24, rfl, Lib.hid (by rw [if_neg hnb.out]; simp), by omega, by omega⟩, rfl⟩
      · have hnb := Lib.hid (show s.hasMode = true from hb)
        go_wp2_with fail
        go_meet
        exact ⟨⟨24 + 4, rfl, Lib.hid (by rw [if_pos hnb.out]), by omega, by omega⟩, rfl⟩
    case rest =>
    obtain ⟨⟨c0, rfl, HC0, hl0, hh0⟩, rfl⟩ := hcut
    go_upto_if 23 with fail
    go_cut [5] from 6 (fun s5 wx => (∃ c : Int, s5 = .int .i64 c ∧ Hid (c = 24 + (if s.hasMode = true then 4 else 0) + (if s.hasUser = true then 4 else 0)) ∧ 24 ≤ c ∧ c ≤ 32) ∧ w1 = wx)
    case first =>
      rcases hb : s.hasUser with _ | _
      · have hnb := Lib.hid (show ¬ (s.hasUser = true) from by rw [hb]; simp)
        go_wp2_with fail
        go_meet
        exact ⟨⟨c0, rfl, Lib.hid (by rw [← HC0.out, if_neg hnb.out]; simp), by omega, by omega⟩, rfl⟩
      · have hnb := Lib.hid (show s.hasUser = true from hb)
        go_wp2_with fail
        go_meet
        exact ⟨⟨c0 + 4, rfl, Lib.hid (by rw [← HC0.out, if_pos hnb.out]), by omega, by omega⟩, rfl⟩
    case rest =>
    obtain ⟨⟨c1, rfl, HC1, hl1, hh1⟩, rfl⟩ := hcut
    go_upto_if 27 with fail
    go_cut [5] from 6 (fun s5 wx => (∃ c : Int, s5 = .int .i64 c ∧ Hid (c = 24 + (if s.hasMode = true then 4 else 0) + (if s.hasUser = true then 4 else 0) + (if s.hasGroup = true then 4 else 0)) ∧ 24 ≤ c ∧ c ≤ 36) ∧ w1 = wx)
    case first =>
      rcases hb : s.hasGroup with _ | _
      · have hnb := Lib.hid (show ¬ (s.hasGroup = true) from by rw [hb]; simp)
        go_wp2_with fail
        go_meet
        exact ⟨⟨c1, rfl, Lib.hid (by rw [← HC1.out, if_neg hnb.out]; simp), by omega, by omega⟩, rfl⟩
      · have hnb := Lib.hid (show s.hasGroup = true from hb)
        go_wp2_with fail
        go_meet
        exact ⟨⟨c1 + 4, rfl, Lib.hid (by rw [← HC1.out, if_pos hnb.out]), by omega, by omega⟩, rfl⟩
    case rest =>
    obtain ⟨⟨c2, rfl, HC2, hl2, hh2⟩, rfl⟩ := hcut
    go_upto_if 31 with fail
    go_cut [5] from 6 (fun s5 wx => (∃ c : Int, s5 = .int .i64 c ∧ Hid (c = 24 + (if s.hasMode = true then 4 else 0) + (if s.hasUser = true then 4 else 0) + (if s.hasGroup = true then 4 else 0) + (if s.hasSize = true then 8 else 0)) ∧ 24 ≤ c ∧ c ≤ 44) ∧ w1 = wx)
    case first =>
      rcases hb : s.hasSize with _ | _
      · have hnb := Lib.hid (show ¬ (s.hasSize = true) from by rw [hb]; simp)
        go_wp2_with fail
        go_meet
        exact ⟨⟨c2, rfl, Lib.hid (by rw [← HC2.out, if_neg hnb.out]; simp), by omega, by omega⟩, rfl⟩
      · have hnb := Lib.hid (show s.hasSize = true from hb)
        go_wp2_with fail
        go_meet
        exact ⟨⟨c2 + 8, rfl, Lib.hid (by rw [← HC2.out, if_pos hnb.out]), by omega, by omega⟩, rfl⟩
    case rest =>
    obtain ⟨⟨c3, rfl, HC3, hl3, hh3⟩, rfl⟩ := hcut
    go_upto_if 36 with fail
    go_cut [5] from 6 (fun s5 wx => (∃ c : Int, s5 = .int .i64 c ∧ Hid (c = 24 + (if s.hasMode = true then 4 else 0) + (if s.hasUser = true then 4 else 0) + (if s.hasGroup = true then 4 else 0) + (if s.hasSize = true then 8 else 0) + (if s.readHow = 2 then 8 else 0)) ∧ 24 ≤ c ∧ c ≤ 52) ∧ w1 = wx)
    case first =>
      rcases hb : ((s.readHow : Int) == 2) with _ | _
      · have hnb := Lib.hid (show ¬ (s.readHow = 2) from by have := hb; simp at this; omega)
        go_wp2_with fail
        go_meet
        exact ⟨⟨c3, rfl, Lib.hid (by rw [← HC3.out, if_neg hnb.out]; simp), by omega, by omega⟩, rfl⟩
      · have hnb := Lib.hid (show s.readHow = 2 from by have := hb; simp at this; omega)
        go_wp2_with fail
        go_meet
        exact ⟨⟨c3 + 8, rfl, Lib.hid (by rw [← HC3.out, if_pos hnb.out]), by omega, by omega⟩, rfl⟩
    case rest =>
    obtain ⟨⟨c4, rfl, HC4, hl4, hh4⟩, rfl⟩ := hcut
    go_upto_if 41 with fail
    go_cut [5] from 6 (fun s5 wx => (∃ c : Int, s5 = .int .i64 c ∧ Hid (c = 24 + (if s.hasMode = true then 4 else 0) + (if s.hasUser = true then 4 else 0) + (if s.hasGroup = true then 4 else 0) + (if s.hasSize = true then 8 else 0) + (if s.readHow = 2 then 8 else 0) + (if s.writeHow = 2 then 8 else 0)) ∧ 24 ≤ c ∧ c ≤ 60) ∧ w1 = wx)
    case first =>
      rcases hb : ((s.writeHow : Int) == 2) with _ | _
      · have hnb := Lib.hid (show ¬ (s.writeHow = 2) from by have := hb; simp at this; omega)
        go_wp2_with fail
        go_meet
        exact ⟨⟨c4, rfl, Lib.hid (by rw [← HC4.out, if_neg hnb.out]; simp), by omega, by omega⟩, rfl⟩
      · have hnb := Lib.hid (show s.writeHow = 2 from by have := hb; simp at this; omega)
        go_wp2_with fail
        go_meet
        exact ⟨⟨c4 + 8, rfl, Lib.hid (by rw [← HC4.out, if_pos hnb.out]), by omega, by omega⟩, rfl⟩
    case rest =>
    obtain ⟨⟨c5, rfl, HC5, hl5, hh5⟩, rfl⟩ := hcut
    have hq : ((bs.length : Int) == c5) = true := by
      have h1 := hn.out; have h2 := HC5.out
      rw [beq_iff_eq, h2, h1]
      exact setN_cast s
    clear HC5 HC4 HC3 HC2 HC1 HC0 hn
    go_wp2_with (go_at_call 22; refine Calls.mono alive_any ?_; rintro e w2 ⟨rfl, b2⟩; (try have oA := OwnL.trk oA (bl_then (by (with_reducible (repeat' (first | exact Below.refl _ _ | assumption | apply bl_alloc | apply bl_drewN | apply bl_drew | refine bl_set ?_ ?_ _))) <;> (first | done | (simp; done) | (simp; omega) | omega)) b2)); (try have oB := OwnL.trk oB (bl_then (by (with_reducible (repeat' (first | exact Below.refl _ _ | assumption | apply bl_alloc | apply bl_drewN | apply bl_drew | refine bl_set ?_ ?_ _))) <;> (first | done | (simp; done) | (simp; omega) | omega)) b2)); (try have oC := OwnL.trk oC (bl_then (by (with_reducible (repeat' (first | exact Below.refl _ _ | assumption | apply bl_alloc | apply bl_drewN | apply bl_drew | refine bl_set ?_ ?_ _))) <;> (first | done | (simp; done) | (simp; omega) | omega)) b2)); (try have oD := OwnL.trk oD (bl_then (by (with_reducible (repeat' (first | exact Below.refl _ _ | assumption | apply bl_alloc | apply bl_drewN | apply bl_drew | refine bl_set ?_ ?_ _))) <;> (first | done | (simp; done) | (simp; omega) | omega)) b2)); (try have HX := Lib.hid (HX.out.below (bl_then (by (with_reducible (repeat' (first | exact Below.refl _ _ | assumption | apply bl_alloc | apply bl_drewN | apply bl_drew | refine bl_set ?_ ?_ _))) <;> (first | done | (simp; done) | (simp; omega) | omega)) b2))); (try have HX1 := Lib.hid (HX1.out.below (bl_then (by (with_reducible (repeat' (first | exact Below.refl _ _ | assumption | apply bl_alloc | apply bl_drewN | apply bl_drew | refine bl_set ?_ ?_ _))) <;> (first | done | (simp; done) | (simp; omega) | omega)) b2))); (try have HX2 := Lib.hid (HX2.out.below (bl_then (by (with_reducible (repeat' (first | exact Below.refl _ _ | assumption | apply bl_alloc | apply bl_drewN | apply bl_drew | refine bl_set ?_ ?_ _))) <;> (first | done | (simp; done) | (simp; omega) | omega)) b2))); (try have HX3 := Lib.hid (HX3.out.below (bl_then (by (with_reducible (repeat' (first | exact Below.refl _ _ | assumption | apply bl_alloc | apply bl_drewN | apply bl_drew | refine bl_set ?_ ?_ _))) <;> (first | done | (simp; done) | (simp; omega) | omega)) b2))); (try have HX4 := Lib.hid (HX4.out.below (bl_then (by (with_reducible (repeat' (first | exact Below.refl _ _ | assumption | apply bl_alloc | apply bl_drewN | apply bl_drew | refine bl_set ?_ ?_ _))) <;> (first | done | (simp; done) | (simp; omega) | omega)) b2))); (try have HO := Lib.hid (HO.out.below (bl_then (by (with_reducible (repeat' (first | exact Below.refl _ _ | assumption | apply bl_alloc | apply bl_drewN | apply bl_drew | refine bl_set ?_ ?_ _))) <;> (first | done | (simp; done) | (simp; omega) | omega)) b2))); (try have HO1 := Lib.hid (HO1.out.below (bl_then (by (with_reducible (repeat' (first | exact Below.refl _ _ | assumption | apply bl_alloc | apply bl_drewN | apply bl_drew | refine bl_set ?_ ?_ _))) <;> (first | done | (simp; done) | (simp; omega) | omega)) b2))); (try have HO2 := Lib.hid (HO2.out.below (bl_then (by (with_reducible (repeat' (first | exact Below.refl _ _ | assumption | apply bl_alloc | apply bl_drewN | apply bl_drew | refine bl_set ?_ ?_ _))) <;> (first | done | (simp; done) | (simp; omega) | omega)) b2))); (try have HO3 := Lib.hid (HO3.out.below (bl_then (by (with_reducible (repeat' (first | exact Below.refl _ _ | assumption | apply bl_alloc | apply bl_drewN | apply bl_drew | refine bl_set ?_ ?_ _))) <;> (first | done | (simp; done) | (simp; omega) | omega)) b2))); (have hB : Below w.heap.size w _ := bl_then (by (with_reducible (repeat' (first | exact Below.refl _ _ | assumption | apply bl_alloc | apply bl_drewN | apply bl_drew | refine bl_set ?_ ?_ _))) <;> (first | done | (simp; done) | (simp; omega) | omega)) b2); (try have hA := oA.2.1); (try have hAB := oB.2.1); clear b2)
    go_ret
    exact ⟨rfl, by (with_reducible (repeat' (first | exact Below.refl _ _ | assumption | apply bl_alloc | apply bl_drewN | apply bl_drew | refine bl_set ?_ ?_ _))) <;> (first | done | (simp; done) | (simp; omega) | omega)⟩
  · clear HP HE HL hr
    go_wp2_with (go_at_call 22; refine Calls.mono alive_any ?_; rintro e w2 ⟨rfl, b2⟩; (try have oA := OwnL.trk oA (bl_then (by (with_reducible (repeat' (first | exact Below.refl _ _ | assumption | apply bl_alloc | apply bl_drewN | apply bl_drew | refine bl_set ?_ ?_ _))) <;> (first | done | (simp; done) | (simp; omega) | omega)) b2)); (try have oB := OwnL.trk oB (bl_then (by (with_reducible (repeat' (first | exact Below.refl _ _ | assumption | apply bl_alloc | apply bl_drewN | apply bl_drew | refine bl_set ?_ ?_ _))) <;> (first | done | (simp; done) | (simp; omega) | omega)) b2)); (try have oC := OwnL.trk oC (bl_then (by (with_reducible (repeat' (first | exact Below.refl _ _ | assumption | apply bl_alloc | apply bl_drewN | apply bl_drew | refine bl_set ?_ ?_ _))) <;> (first | done | (simp; done) | (simp; omega) | omega)) b2)); (try have oD := OwnL.trk oD (bl_then (by (with_reducible (repeat' (first | exact Below.refl _ _ | assumption | apply bl_alloc | apply bl_drewN | apply bl_drew | refine bl_set ?_ ?_ _))) <;> (first | done | (simp; done) | (simp; omega) | omega)) b2)); (try have HX := Lib.hid (HX.out.below (bl_then (by (with_reducible (repeat' (first | exact Below.refl _ _ | assumption | apply bl_alloc | apply bl_drewN | apply bl_drew | refine bl_set ?_ ?_ _))) <;> (first | done | (simp; done) | (simp; omega) | omega)) b2))); (try have HX1 := Lib.hid (HX1.out.below (bl_then (by (with_reducible (repeat' (first | exact Below.refl _ _ | assumption | apply bl_alloc | apply bl_drewN | apply bl_drew | refine bl_set ?_ ?_ _))) <;> (first | done | (simp; done) | (simp; omega) | omega)) b2))); (try have HX2 := Lib.hid (HX2.out.below (bl_then (by (with_reducible (repeat' (first | exact Below.refl _ _ | assumption | apply bl_alloc | apply bl_drewN | apply bl_drew | refine bl_set ?_ ?_ _))) <;> (first | done | (simp; done) | (simp; omega) | omega)) b2))); (try have HX3 := Lib.hid (HX3.out.below (bl_then (by (with_reducible (repeat' (first | exact Below.refl _ _ | assumption | apply bl_alloc | apply bl_drewN | apply bl_drew | refine bl_set ?_ ?_ _))) <;> (first | done | (simp; done) | (simp; omega) | omega)) b2))); (try have HX4 := Lib.hid (HX4.out.below (bl_then (by (with_reducible (repeat' (first | exact Below.refl _ _ | assumption | apply bl_alloc | apply bl_drewN | apply bl_drew | refine bl_set ?_ ?_ _))) <;> (first | done | (simp; done) | (simp; omega) | omega)) b2))); (try have HO := Lib.hid (HO.out.below (bl_then (by (with_reducible (repeat' (first | exact Below.refl _ _ | assumption | apply bl_alloc | apply bl_drewN | apply bl_drew | refine bl_set ?_ ?_ _))) <;> (first | done | (simp; done) | (simp; omega) | omega)) b2))); (try have HO1 := Lib.hid (HO1.out.below (bl_then (by (with_reducible (repeat' (first | exact Below.refl _ _ | assumption | apply bl_alloc | apply bl_drewN | apply bl_drew | refine bl_set ?_ ?_ _))) <;> (first | done | (simp; done) | (simp; omega) | omega)) b2))); (try have HO2 := Lib.hid (HO2.out.below (bl_then (by (with_reducible (repeat' (first | exact Below.refl _ _ | assumption | apply bl_alloc | apply bl_drewN | apply bl_drew | refine bl_set ?_ ?_ _))) <;> (first | done | (simp; done) | (simp; omega) | omega)) b2))); (try have HO3 := Lib.hid (HO3.out.below (bl_then (by (with_reducible (repeat' (first | exact Below.refl _ _ | assumption | apply bl_alloc | apply bl_drewN | apply bl_drew | refine bl_set ?_ ?_ _))) <;> (first | done | (simp; done) | (simp; omega) | omega)) b2))); (have hB : Below w.heap.size w _ := bl_then (by (with_reducible (repeat' (first | exact Below.refl _ _ | assumption | apply bl_alloc | apply bl_drewN | apply bl_drew | refine bl_set ?_ ?_ _))) <;> (first | done | (simp; done) | (simp; omega) | omega)) b2); (try have hA := oA.2.1); (try have hAB := oB.2.1); clear b2)
    go_ret
    exact ⟨rfl, by (with_reducible (repeat' (first | exact Below.refl _ _ | assumption | apply bl_alloc | apply bl_drewN | apply bl_drew | refine bl_set ?_ ?_ _))) <;> (first | done | (simp; done) | (simp; omega) | omega)⟩
end
end Go.Proofs.Ytkaapdnjlmceoaa

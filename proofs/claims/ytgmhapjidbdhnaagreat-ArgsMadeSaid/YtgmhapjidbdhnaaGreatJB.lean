/- attrs: what makes the parts: a point of time. -/
import Derived.Test.YtgmhapjidbdhnaaGreatJA
import Derived.Deep.RegionHeld3
import Derived.Deep.RegionWith
import Derived.Deep.DeepCutAuto
import Derived.Test.YtgmhapjidbdhnaaGreatProg
set_option linter.unusedVariables false
set_option linter.unusedSimpArgs false
namespace Go.Proofs.YtgmhapjidbdhnaaGreat
open Go.RowKit
/-- What a call that gives bytes comes to. -/
def GivesPost (r : Except Int (List UInt8)) (w : World) (e : Ending) (w' : World) : Prop :=
  Below w.heap.size w w' ∧ ((∃ bs v, r = .ok bs ∧ e = .returned v ∧ OwnB w' w.heap.size v bs) ∨ (∃ er, r = .error er ∧ e = .panicked (wr er)))
/-- A function value that gives these bytes, or panics so, now and later. -/
def Gives (w : World) (fv : Value) (r : Except Int (List UInt8)) : Prop :=
  ∃ f cap, fv = .func (.func f) #[] cap ∧ Enters Tryz.prog f ∧ ∀ w', Below w.heap.size w w' → Calls Tryz.prog f cap w' (GivesPost r w')
theorem Gives.below {w w' : World} {fv : Value} {r : Except Int (List UInt8)} (h : Gives w fv r) (hb : Below w.heap.size w w') : Gives w' fv r := by
  obtain ⟨f, cap, e, eg, hc⟩ := h
  exact ⟨f, cap, e, eg, fun w'' h2 => hc w'' (hb.trans (h2.mono hb.size))⟩
/-- Some parts behind one another, up to the first that is an error. -/
def catP : List (Except Int (List UInt8)) → Except Int (List UInt8)
  | [] => .ok []
  | .error e :: _ => .error e
  | .ok b :: rs => match catP rs with
    | .error e => .error e
    | .ok c => .ok (b ++ c)
theorem catP_snoc_ok {rs : List (Except Int (List UInt8))} {b : List UInt8} (h : catP rs = .ok b) (c : List UInt8) : catP (rs ++ [.ok c]) = .ok (b ++ c) := by
  induction rs generalizing b with
  | nil => simp [catP] at h ⊢; simp [← h]
  | cons r rs ih =>
    cases r with
    | error e => simp [catP] at h
    | ok x =>
      simp only [catP, List.cons_append] at h ⊢
      cases hr : catP rs with
      | error e => rw [hr] at h; cases h
      | ok y => rw [hr] at h; injection h with h; rw [ih hr, ← h]; simp
theorem catP_stop {rs rs' : List (Except Int (List UInt8))} {b : List UInt8} (h : catP rs = .ok b) (e : Int) : catP (rs ++ .error e :: rs') = .error e := by
  induction rs generalizing b with
  | nil => simp [catP]
  | cons r rs ih =>
    cases r with
    | error e => simp [catP] at h
    | ok x =>
      simp only [catP, List.cons_append] at h ⊢
      cases hr : catP rs with
      | error e => rw [hr] at h; cases h
      | ok y => rw [ih hr]
theorem catP_len {rs : List (Except Int (List UInt8))} {b : List UInt8} (h : catP rs = .ok b) (m : Nat) (hm : ∀ r ∈ rs, ∀ c, r = .ok c → c.length ≤ m) : b.length ≤ rs.length * m := by
  induction rs generalizing b with
  | nil => simp [catP] at h; simp [← h]
  | cons r rs ih =>
    cases r with
    | error e => simp [catP] at h
    | ok x =>
      simp only [catP] at h
      cases hr : catP rs with
      | error e => rw [hr] at h; cases h
      | ok y =>
        rw [hr] at h; injection h with h
        have h1 := ih hr (fun r hr' => hm r (List.mem_cons_of_mem _ hr'))
        have h2 := hm _ (List.mem_cons_self ..) x rfl
        rw [← h, List.length_append, List.length_cons, Nat.add_mul]
        omega
/-- Parts in memory. -/
def PartsB (w : World) (g : Nat) (rs : List (Except Int (List UInt8))) : Prop :=
  ∀ (i : Nat) (h : i < rs.length), ∃ fv, g < w.heap.size ∧ w.cell? ⟨g, i, none⟩ = some fv ∧ Gives w fv rs[i]
theorem PartsB.below {w w' : World} {g : Nat} {rs : List (Except Int (List UInt8))} (h : PartsB w g rs) (hb : Below w.heap.size w w') : PartsB w' g rs := by
  intro i hi
  obtain ⟨fv, hl, hc, hg⟩ := h i hi
  exact ⟨fv, Nat.lt_of_lt_of_le hl hb.size, (hb.cell (p := ⟨g, i, none⟩) hl).trans hc, hg.below hb⟩
/-- Bytes of a part: some, and not too many. -/
def Few (r : Except Int (List UInt8)) : Prop := ∀ c, r = .ok c → 0 < c.length ∧ c.length ≤ 1000
set_option maxRecDepth 100000 in
set_option maxHeartbeats 2000000 in
theorem all_any (rs : List (Except Int (List UInt8))) (g n cap : Nat) (hn : n = rs.length) (hn2 : n ≤ 1000) (hf : ∀ r ∈ rs, Few r) (w : World) (hP : PartsB w g rs) :
    Calls Tryz.prog 32 #[.slice (some ⟨g, 0, none⟩) n cap] w (GivesPost (catP rs) w) := by
  have HP := Lib.hid hP
  have HF := Lib.hid hf
  have HN := Lib.hid hn
  clear hP hf hn
  go_enter Tryz.func32, Tryz.ntmps32
  go_wp2
  go_loopw [2, 7] (fun b i wr => ∃ k : Nat, k ≤ n ∧ i = .int .i64 k ∧ ∃ bs, catP (rs.take k) = .ok bs ∧ OwnB wr w.heap.size b bs ∧ Below w.heap.size w wr)
    (fun b i wr => n - (intOf i).toNat)
  case atStart =>
    exact ⟨0, by omega, rfl, [], by simp [catP], OwnB.nil _ _, by (with_reducible (repeat' (first | exact Below.refl _ _ | assumption | apply bl_alloc | apply bl_drewN | apply bl_drew | refine bl_set ?_ ?_ _))) <;> (first | done | (simp; done) | (simp; omega) | omega)⟩
  case round =>
    obtain ⟨k, hk, rfl, bs, hcat, hO, hb⟩ := hrel
    by_cases hlt : k < n
    · have hk' : k < rs.length := by have := HN.out; omega
      obtain ⟨fv, hgl, hc, f, cp, rfl, eg, hG⟩ := HP.out k hk'
      have hc' := (hb.cell (p := ⟨g, k, none⟩) hgl).trans hc
      have hls := catP_len hcat 1000 (fun r hr c e => (HF.out r (List.mem_of_mem_take hr) c e).2)
      rw [List.length_take] at hls
      have HC := Lib.hid hcat
      clear hcat
      have HL := Lib.hid hls; clear hls
      have eg2 : ∀ (args : Array Value) (wx : World), (callFunc f args).run Tryz.prog wx = .ok (.enter f args) wx := eg
      rcases hr : rs[k] with er | cs
      · rw [hr] at hG
        have hu2 : ∃ A l c, u2 = .slice A l c := by
          rcases hO.2 with ⟨rfl, _⟩ | ⟨g1, c1, cur1, rfl, _⟩
          · exact ⟨_, _, _, rfl⟩
          · exact ⟨_, _, _, rfl⟩
        obtain ⟨A2, l2, c2, rfl⟩ := hu2
        have HR := Lib.hid hr; clear hr
        go_wp2_with (go_at_fn f; refine Calls.mono (hG _ (by (with_reducible (repeat' (first | exact Below.refl _ _ | assumption | apply bl_alloc | apply bl_drewN | apply bl_drew | refine bl_set ?_ ?_ _))) <;> (first | done | (simp; done) | (simp; omega) | omega))) ?_; rintro e w1 ⟨b1, ⟨_, _, h, _⟩ | ⟨er', h, rfl⟩⟩; (cases h); (injection h with h; subst h))
        refine ⟨rfl, bl_then (by (with_reducible (repeat' (first | exact Below.refl _ _ | assumption | apply bl_alloc | apply bl_drewN | apply bl_drew | refine bl_set ?_ ?_ _))) <;> (first | done | (simp; done) | (simp; omega) | omega)) b1, .inr ⟨er, ?_, rfl⟩⟩
        have e : rs = rs.take k ++ rs[k] :: rs.drop (k + 1) := by rw [List.getElem_cons_drop, List.take_append_drop]
        rw [e, HR.out]; exact catP_stop HC.out er
      · rw [hr] at hG
        have HR := Lib.hid hr
        have hF1 := Lib.hid (HF.out _ (List.getElem_mem hk') cs hr)
        have hls2 : Hid (bs.length ≤ 1000000) := by have := HL.out; rw [Hid]; omega
        clear hr
        go_wp2_with (first
          | (go_at_fn f; refine Calls.mono (hG _ (by (with_reducible (repeat' (first | exact Below.refl _ _ | assumption | apply bl_alloc | apply bl_drewN | apply bl_drew | refine bl_set ?_ ?_ _))) <;> (first | done | (simp; done) | (simp; omega) | omega))) ?_; rintro e w1 ⟨b1, ⟨cs', v1, h, rfl, o1⟩ | ⟨er', h, rfl⟩⟩; rotate_left; (cases h); (injection h with h; subst h; have b2 : Below w.heap.size w w1 := bl_then (by (with_reducible (repeat' (first | exact Below.refl _ _ | assumption | apply bl_alloc | apply bl_drewN | apply bl_drew | refine bl_set ?_ ?_ _))) <;> (first | done | (simp; done) | (simp; omega) | omega)) b1))
          | (at_builtin; refine wp_append_bytes rfl _ _ rfl rfl rfl (hO.below b1) o1 (hF1.out).1 (by have := hF1.out; have := hls2.out; omega) (by have := hb.size; have := b1.size; omega) ?_; intro v' w' hO' hb'; have b3 := b2.trans hb'))
        go_roundw
        case rel => exact ⟨k + 1, by omega, by congr 1, bs ++ cs, by rw [List.take_succ_eq_append_getElem hk', HR.out]; exact catP_snoc_ok HC.out cs, hO', b3⟩
        case measure => simp [intOf]; omega
    · obtain rfl : k = n := by omega
      go_wp2
      have hu2 : ∃ A l c, u2 = .slice A l c := by
        rcases hO.2 with ⟨rfl, _⟩ | ⟨g1, c1, cur1, rfl, _⟩
        · exact ⟨_, _, _, rfl⟩
        · exact ⟨_, _, _, rfl⟩
      obtain ⟨A2, l2, c2, rfl⟩ := hu2
      refine bodyPost_ret (v := .slice A2 l2 c2) (by simp [results, Tryz.results32, go_sem]) rfl ⟨by (with_reducible (repeat' (first | exact Below.refl _ _ | assumption | apply bl_alloc | apply bl_drewN | apply bl_drew | refine bl_set ?_ ?_ _))) <;> (first | done | (simp; done) | (simp; omega) | omega), .inl ⟨bs, _, ?_, rfl, hO⟩⟩
      rw [HN.out, List.take_length] at hcat; exact hcat
end Go.Proofs.YtgmhapjidbdhnaaGreat
namespace Go.Proofs.YtgmhapjidbdhnaaGreat
open Go.RowKit
/-- What a call that makes a part comes to. -/
def MakesPost (r : Except Int (List UInt8)) (w : World) (e : Ending) (w' : World) : Prop := ∃ fv, e = .returned fv ∧ Gives w' fv r ∧ Below w.heap.size w w'
theorem cell_box {w w' : World} {v : Value} {t : TypeId} (hb : Below (w.alloc (.cells #[v] t)).heap.size (w.alloc (.cells #[v] t)) w') : w'.cell? ⟨w.heap.size, 0, none⟩ = some v := by
  have h := hb.cell (p := ⟨w.heap.size, 0, none⟩) (by simp)
  rw [h]; simp [go_sem]
theorem few_put4 (n : Nat) : Few (.ok (put4 n)) := fun c h => by injection h with h; subst h; simp
theorem few_put8 (n : Nat) : Few (.ok (put8 n)) := fun c h => by injection h with h; subst h; simp
set_option maxRecDepth 100000 in
set_option maxHeartbeats 1000000 in
theorem number1_any (g n : Nat) (hn : n < 4294967296) (w : World) (h0 : w.cell? ⟨g, 0, none⟩ = some (.int .u32 n)) : Calls Tryz.prog 56 #[.pointer (some ⟨g, 0, none⟩)] w (GivesPost (.ok (put4 n)) w) := by
  go_enter Tryz.func56, Tryz.ntmps56
  go_wp2_with (go_at_call 20; refine (Put_any n hn w).mono ?_; rintro e w1 ⟨v, rfl, o, b⟩)
  go_ret
  exact ⟨b, .inl ⟨_, _, rfl, rfl, o⟩⟩
set_option maxRecDepth 100000 in
set_option maxHeartbeats 1000000 in
theorem number_mk (n : Nat) (hn : n < 4294967296) (w : World) : Calls Tryz.prog 34 #[.int .u32 n] w (MakesPost (.ok (put4 n)) w) := by
  go_enter Tryz.func34, Tryz.ntmps34
  go_wp2
  go_ret
  exact ⟨_, rfl, ⟨_, _, rfl, enters_of Tryz.func56 (by kernel_rfl) rfl, fun w' hb => number1_any _ n hn w' (cell_box hb)⟩, by (with_reducible (repeat' (first | exact Below.refl _ _ | assumption | apply bl_alloc | apply bl_drewN | apply bl_drew | refine bl_set ?_ ?_ _))) <;> (first | done | (simp; done) | (simp; omega) | omega)⟩
set_option maxRecDepth 100000 in
set_option maxHeartbeats 1000000 in
theorem long1_any (g n : Nat) (hn : n < 18446744073709551616) (w : World) (h0 : w.cell? ⟨g, 0, none⟩ = some (.int .u64 n)) : Calls Tryz.prog 57 #[.pointer (some ⟨g, 0, none⟩)] w (GivesPost (.ok (put8 n)) w) := by
  go_enter Tryz.func57, Tryz.ntmps57
  go_wp2_with (go_at_call 19; refine (PutLong_any n hn w).mono ?_; rintro e w1 ⟨v, rfl, o, b⟩)
  go_ret
  exact ⟨b, .inl ⟨_, _, rfl, rfl, o⟩⟩
set_option maxRecDepth 100000 in
set_option maxHeartbeats 1000000 in
theorem long_mk (n : Nat) (hn : n < 18446744073709551616) (w : World) : Calls Tryz.prog 35 #[.int .u64 n] w (MakesPost (.ok (put8 n)) w) := by
  go_enter Tryz.func35, Tryz.ntmps35
  go_wp2
  go_ret
  exact ⟨_, rfl, ⟨_, _, rfl, enters_of Tryz.func57 (by kernel_rfl) rfl, fun w' hb => long1_any _ n hn w' (cell_box hb)⟩, by (with_reducible (repeat' (first | exact Below.refl _ _ | assumption | apply bl_alloc | apply bl_drewN | apply bl_drew | refine bl_set ?_ ?_ _))) <;> (first | done | (simp; done) | (simp; omega) | omega)⟩
end Go.Proofs.YtgmhapjidbdhnaaGreat
namespace Go.Proofs.YtgmhapjidbdhnaaGreat
open Go.RowKit
section
variable (A : Option Addr) (n cap : Nat) (xs : List UInt8) (w : World)
end
def putTm (t : Tm) : List UInt8 := put4 t.sec ++ put4 t.nano
end Go.Proofs.YtgmhapjidbdhnaaGreat
namespace Go.Proofs.YtgmhapjidbdhnaaGreat
open Go.RowKit
section
variable {R : Nat} {A : Option Addr} {n cap k : Nat} {xs : List UInt8} {w : World}
/-- The address and the room of what stands from k on, as the walk spells them once the test is decided. -/
theorem Bs.rest (hB : Bs w A n xs) (hc : n ≤ cap) (hk : k ≤ n) : ∃ A' m c', Bs w A' m (xs.drop k) ∧ m ≤ c' ∧ m = n - k ∧ ((k < cap ∧ A' = Option.map (fun x => x.add k) A ∧ m = n - k ∧ c' = cap - k) ∨ (cap = k ∧ n = k ∧ A' = A ∧ m = 0 ∧ c' = 0)) := by
  rcases Nat.lt_or_ge k cap with h | h
  · exact ⟨_, _, _, hB.from_lt k hk h, by omega, rfl, .inl ⟨h, rfl, rfl, rfl⟩⟩
  · have h1 : xs.drop k = [] := List.eq_nil_of_length_eq_zero (by rw [List.length_drop, hB.1]; omega)
    exact ⟨A, 0, 0, by rw [h1]; exact Bs.nil _ _, Nat.le_refl _, by omega, .inr ⟨by omega, by omega, rfl, rfl, rfl⟩⟩

set_option maxRecDepth 100000 in
set_option maxHeartbeats 4000000 in
theorem nextTime_lt (hR : RB w R A n cap k) (hB : Bs w A n xs) (hc : n ≤ cap) (hk : k ≤ n) (hck : k < cap) :
    Calls Tryz.prog 126 #[.pointer (some ⟨R, 0, none⟩), .func (.func 83) #[] #[], .int .i64 8] w (RdPost pTime eTime R A n cap k xs w) := by
  have h0 := hR.b; have h1 := hR.at_; have hf := hR.free 1
  have hn := hB.2.1
  have HR := Lib.hid hR
  have hRs := hR.lt
  have hD := Lib.hid (hB.from_lt k hk hck)
  obtain ⟨t, er, hG, hcase⟩ := TGet_any (Option.map (fun x => x.add k) A) (n - k) (cap - k) (xs.drop k) hD.out.1 (by omega)
  have HG := Lib.hid hG; have HC := Lib.hid hcase; clear hG hcase
  have hne : ¬ cap = k := by omega
  clear hR hB
  go_enter Tryz.func126, Tryz.ntmps126
  go_upto_region 1 with fail
  go_cut [7, 8] (fun s7 s8 wx => ∃ g : Nat, w.heap.size ≤ g ∧ s7 = .pointer (some ⟨g, 0, none⟩) ∧ s8 = .int .i64 er ∧ wx.cell? ⟨g, 0, none⟩ = some (.int .u32 t.sec) ∧ wx.cell? ⟨g, 1, none⟩ = some (.int .u32 t.nano) ∧ Below (w.alloc (.cells #[.int .u32 0, .int .u32 0] 28)).heap.size (w.alloc (.cells #[.int .u32 0, .int .u32 0] 28)) wx)
  case first =>
    go_region_with ((go_at_call 83; refine (HG.out _ (hD.out.below (by (with_reducible (repeat' (first | exact Below.refl _ _ | assumption | apply bl_alloc | apply bl_drewN | apply bl_drew | refine bl_set ?_ ?_ _))) <;> (first | done | (simp; done) | (simp; omega) | omega)))).mono ?_; rintro e w' ⟨rfl, hb1⟩; have hb2 : Below (w.alloc (.cells #[.int .u32 0, .int .u32 0] 28)).heap.size (w.alloc (.cells #[.int .u32 0, .int .u32 0] 28)) w' := bl_then' hb1 (by (with_reducible (repeat' (first | exact Below.refl _ _ | assumption | apply bl_alloc | apply bl_drewN | apply bl_drew | refine bl_set ?_ ?_ _))) <;> (first | done | (simp; done) | (simp; omega) | omega)); obtain ⟨hcx, hfx⟩ := bcell hb1; have hzx := hb1.size; simp at hzx; clear hb1))
    all_goals (go_wp2_with fail; go_meet; exact ⟨_, by omega, rfl, rfl, by simp [go_sem, hcx], by simp [go_sem, hcx], by (with_reducible (repeat' (first | exact Below.refl _ _ | assumption | apply bl_alloc | apply bl_drewN | apply bl_drew | refine bl_set ?_ ?_ _))) <;> (first | done | (simp; done) | (simp; omega) | omega)⟩)
  case rest =>
    obtain ⟨g, hgw, rfl, rfl, hg0, hg1, hb⟩ := hcut
    have hgR : ¬ g = R := by omega
    have hbw : Below w.heap.size w wc := bl_then' hb (by (with_reducible (repeat' (first | exact Below.refl _ _ | assumption | apply bl_alloc | apply bl_drewN | apply bl_drew | refine bl_set ?_ ?_ _))) <;> (first | done | (simp; done) | (simp; omega) | omega))
    obtain ⟨hcx, hfx⟩ := bcell hb; have hzx := hb.size; simp at hzx; clear hb
    have hR0 := HR.out.below hbw
    have h0 := hR0.b; have h1 := hR0.at_; have hf := hR0.free 1
    have HR0 := Lib.hid hR0; clear hR0
    rcases HC.out with ⟨e0, hp, h8⟩ | ⟨e0, hp⟩
    · have hl : k + 8 ≤ n := by omega
      have hp := Lib.hid hp
      obtain rfl := e0
      clear HC
      go_wp2_with (go_at_call 31; refine (must_yes _ _).mono ?_; rintro e w' ⟨rfl, rfl⟩)
      refine bodyPost_ret (v := .agg #[.int .u32 t.sec, .int .u32 t.nano]) (by simp [results, Tryz.results126, go_sem, hcx]) rfl ?_
      refine .inl ⟨t, 8, Hid.out ‹Hid (pTime _ = _)›, hl, rfl, ?_, ?_⟩
      · exact ((HR0.out.set (k + 8)).other (by simp; omega) _).other (by simp; omega) _
      · have := gb_below (r := some R) hbw
        (with_reducible (repeat' (first | exact World.grownBy.refl _ _ | assumption | apply gb_alloc | apply gb_drewN | apply gb_drew | apply gb_setR | refine gb_set ?_ ?_ _))) <;> (first | done | (simp; done) | (simp; omega) | omega)
    · have hp := Lib.hid hp
      clear HC
      go_wp2_with (go_at_call 31; refine (must_no _ _).mono ?_; rintro e w' ⟨rfl, rfl⟩)
      exact ⟨rfl, .inr ⟨er, Hid.out ‹Hid (pTime _ = _)›, rfl, grown_of_below hbw _⟩⟩
set_option maxRecDepth 100000 in
set_option maxHeartbeats 4000000 in
theorem nextTime_end (hR : RB w R A k k k) (hB : Bs w A k xs) :
    Calls Tryz.prog 126 #[.pointer (some ⟨R, 0, none⟩), .func (.func 83) #[] #[], .int .i64 8] w (RdPost pTime eTime R A k k k xs w) := by
  have h0 := hR.b; have h1 := hR.at_; have hf := hR.free 1
  have hn := hB.2.1
  have HR := Lib.hid hR
  have hRs := hR.lt
  have hp : pTime (xs.drop k) = .error 4 := by simp [pTime, hB.1]
  have HP := Lib.hid hp
  clear hR hB hp
  go_enter Tryz.func126, Tryz.ntmps126
  go_upto_region 1 with fail
  go_cut [7, 8] (fun s7 s8 wx => ∃ g : Nat, w.heap.size ≤ g ∧ s7 = .pointer (some ⟨g, 0, none⟩) ∧ s8 = .int .i64 4 ∧ Below w.heap.size w wx)
  case first =>
    go_region_with ((go_at_call 83; refine (TGet_short _ _ _ _ _ (Bs.nil _ _) (by omega)).mono ?_; rintro e w' ⟨rfl, hb1⟩; have hb2 : Below w.heap.size w w' := bl_then' hb1 (by (with_reducible (repeat' (first | exact Below.refl _ _ | assumption | apply bl_alloc | apply bl_drewN | apply bl_drew | refine bl_set ?_ ?_ _))) <;> (first | done | (simp; done) | (simp; omega) | omega)); obtain ⟨hcx, hfx⟩ := bcell hb1; have hzx := hb1.size; simp at hzx; clear hb1))
    all_goals (go_wp2_with fail; go_meet; exact ⟨_, by omega, rfl, rfl, by (with_reducible (repeat' (first | exact Below.refl _ _ | assumption | apply bl_alloc | apply bl_drewN | apply bl_drew | refine bl_set ?_ ?_ _))) <;> (first | done | (simp; done) | (simp; omega) | omega)⟩)
  case rest =>
    obtain ⟨g, hgw, rfl, rfl, hbw⟩ := hcut
    go_wp2_with (go_at_call 31; refine (must_no _ _).mono ?_; rintro e w' ⟨rfl, rfl⟩)
    exact ⟨rfl, .inr ⟨4, HP.out, rfl, grown_of_below hbw _⟩⟩
theorem nextTime_any (hR : RB w R A n cap k) (hB : Bs w A n xs) (hc : n ≤ cap) (hk : k ≤ n) :
    Calls Tryz.prog 126 #[.pointer (some ⟨R, 0, none⟩), .func (.func 83) #[] #[], .int .i64 8] w (RdPost pTime eTime R A n cap k xs w) := by
  rcases Nat.lt_or_ge k cap with h | h
  · exact nextTime_lt hR hB hc hk h
  · obtain rfl : n = cap := by omega
    obtain rfl : k = n := by omega
    exact nextTime_end hR hB
theorem time_any (hR : RB w R A n cap k) (hB : Bs w A n xs) (hc : n ≤ cap) (hk : k ≤ n) :
    Calls Tryz.prog 118 #[.pointer (some ⟨R, 0, none⟩)] w (RdPost pTime eTime R A n cap k xs w) := by
  have HR := Lib.hid hR; have HB := Lib.hid hB
  have hRs := hR.lt
  clear hR hB
  go_enter Tryz.func118, Tryz.ntmps118
  go_wp2_with fail
  refine (nextTime_any (HR.out.alloc _) (HB.out.alloc _) hc hk).mono ?_
  rintro e w' (⟨v, j, hp, hl, rfl, hR', hg⟩ | ⟨er, hp, rfl, hg⟩)
  · have hp := Lib.hid hp
    obtain ⟨hcx, hfx⟩ := gcell hg
    have hzx := hg.size; simp at hzx
    have hne : ¬ w.heap.size = R := by omega
    have HR' := Lib.hid hR'; have HG := Lib.hid hg; clear hR' hg
    simp only [eTime]
    go_wp2
    refine bodyPost_ret (v := .agg #[.int .u32 v.sec, .int .u32 v.nano]) (by simp [results, Tryz.results118, go_sem, hcx, hne]) rfl ?_
    refine .inl ⟨v, j, Hid.out ‹Hid (pTime _ = _)›, hl, rfl, ?_, ?_⟩
    · exact (HR'.out.other (by simp; omega) _).other (by simp; omega) _
    · have := gb_alloc_then HG.out
      (with_reducible (repeat' (first | exact World.grownBy.refl _ _ | assumption | apply gb_alloc | apply gb_drewN | apply gb_drew | apply gb_setR | refine gb_set ?_ ?_ _))) <;> (first | done | (simp; done) | (simp; omega) | omega)
  · have hp := Lib.hid hp
    have HG := Lib.hid hg; clear hg
    go_wp2
    exact ⟨rfl, .inr ⟨er, Hid.out ‹Hid (pTime _ = _)›, rfl, gb_alloc_then HG.out⟩⟩
end
end Go.Proofs.YtgmhapjidbdhnaaGreat
namespace Go.Proofs.YtgmhapjidbdhnaaGreat
open Go.RowKit

def wrDone (e : Int) : List PanicEntry := [{ v := .iface 114 (.agg #[.int .i64 e]), recovered := true }]

theorem ta_yes (er : Int) (w : World) : (Instr.typeAssert (.iface 114 (.agg #[.int .i64 er])) 20 114 true).run Tryz.prog w = .ok (.tuple #[.agg #[.int .i64 er], .bool true]) w := by kernel_rfl
theorem ta_no (w : World) : (Instr.typeAssert .nilIface 20 114 true).run Tryz.prog w = .ok (.tuple #[.agg #[.int .i64 0], .bool false]) w := by kernel_rfl

set_option maxRecDepth 100000 in
set_option maxHeartbeats 1000000 in
theorem stop_panicking (p : Addr) (x : Int) (er : Int) (w : World) (hc : w.cell? p = some (.int .i64 x)) (hz : w.frozen? p = false) (hp : p.block < w.heap.size) :
    CallsD Tryz.prog 30 #[.pointer (some p)] (.panicking (wr er)) w fun e u' w' =>
      e = .returned (.tuple #[]) ∧ u' = .panicking (wrDone er) ∧ (w.alloc (.cells #[.int .i64 er] 114)).setCell p (.int .i64 er) = w' := by
  have hne : ¬ p.block = w.heap.size := by omega
  have hc' : (w.alloc (.cells #[.int .i64 er] 114)).cell? p = some (.int .i64 x) := (World.cell?_of_block (Below.heap_alloc w _ _ hp)).trans hc
  have hz' : (w.alloc (.cells #[.int .i64 er] 114)).frozen? p = false := (World.frozen?_of_block (Below.heap_alloc w _ _ hp)).trans hz
  refine callsD_of_wpS Tryz.func30 rfl fun c₀ cs hu => ?_
  unfold wr at hu
  apply wpS_seq
  apply wpS_region
  simp [wpOpsS, go_sem, recoverD, hu, ta_yes, Tryz.ntmps30, Exit.thenS]
  refine wpS_of_wp ?_
  simp only [Array.replicate_succ, Array.replicate_zero, List.push_toArray, List.append_toArray, List.nil_append, List.cons_append, List.setIfInBounds_toArray, List.set_cons_zero, List.set_cons_succ]
  go_wp2
  exact ⟨rfl, .panicking (wrDone er), rfl, .tuple #[], results_none rfl _ _ _, rfl, rfl, rfl⟩

set_option maxRecDepth 100000 in
set_option maxHeartbeats 1000000 in
theorem stop_idle (p : Addr) (w : World) :
    CallsD Tryz.prog 30 #[.pointer (some p)] .returning w fun e u' w' => e = .returned (.tuple #[]) ∧ u' = .returning ∧ w.alloc (.cells #[.int .i64 0] 114) = w' := by
  refine callsD_of_wpS Tryz.func30 rfl fun c₀ cs hu => ?_
  apply wpS_seq
  apply wpS_region
  simp [wpOpsS, go_sem, recoverD, hu, ta_no, Tryz.ntmps30, Exit.thenS]
  refine wpS_of_wp ?_
  simp only [Array.replicate_succ, Array.replicate_zero, List.push_toArray, List.append_toArray, List.nil_append, List.cons_append, List.setIfInBounds_toArray, List.set_cons_zero, List.set_cons_succ]
  go_wp2
  exact ⟨rfl, .returning, by cases c₀; simp_all, .tuple #[], results_none rfl _ _ _, rfl, rfl, rfl⟩
end Go.Proofs.YtgmhapjidbdhnaaGreat
namespace Go.Proofs.YtgmhapjidbdhnaaGreat
end Go.Proofs.YtgmhapjidbdhnaaGreat
namespace Go.Proofs.YtgmhapjidbdhnaaGreat
open Go.RowKit
section
variable {R : Nat} {A : Option Addr} {n cap k : Nat} {xs : List UInt8} {w : World}

/-- Where there are bytes enough a number comes. -/
theorem number_ok (hR : RB w R A n cap k) (hB : Bs w A n xs) (hc : n ≤ cap) (hk : k + 4 ≤ n) :
    Calls Tryz.prog 97 #[.pointer (some ⟨R, 0, none⟩)] w fun e w' => e = .returned (.int .u32 (f4 xs k)) ∧ RB w' R A n cap (k + 4) ∧ Bs w' A n xs ∧ w.grownBy w' (some R) := by
  refine (number_any hR hB hc (by omega)).mono ?_
  have hp : pNum (xs.drop k) = .ok (beN ((xs.drop k).take 4), 4) := by simp [pNum, hB.1]; omega
  rintro e w' (⟨v, j, hp', hl, rfl, hR', hg⟩ | ⟨er, hp', rfl, hg⟩)
  · rw [hp] at hp'
    injection hp' with hp'
    injection hp' with h1 h2
    subst h1; subst h2
    exact ⟨rfl, hR', hB.turn hR hg, hg⟩
  · rw [hp] at hp'; cases hp'
theorem long_ok (hR : RB w R A n cap k) (hB : Bs w A n xs) (hc : n ≤ cap) (hk : k + 8 ≤ n) :
    Calls Tryz.prog 99 #[.pointer (some ⟨R, 0, none⟩)] w fun e w' => e = .returned (.int .u64 (f8 xs k)) ∧ RB w' R A n cap (k + 8) ∧ Bs w' A n xs ∧ w.grownBy w' (some R) := by
  refine (long_any hR hB hc (by omega)).mono ?_
  have hp : pLong (xs.drop k) = .ok (beN ((xs.drop k).take 8), 8) := by simp [pLong, hB.1]; omega
  rintro e w' (⟨v, j, hp', hl, rfl, hR', hg⟩ | ⟨er, hp', rfl, hg⟩)
  · rw [hp] at hp'
    injection hp' with hp'
    injection hp' with h1 h2
    subst h1; subst h2
    exact ⟨rfl, hR', hB.turn hR hg, hg⟩
  · rw [hp] at hp'; cases hp'
/-- A point of time comes, or the panic. -/
theorem time_ok (hR : RB w R A n cap k) (hB : Bs w A n xs) (hc : n ≤ cap) (hk : k ≤ n) :
    Calls Tryz.prog 118 #[.pointer (some ⟨R, 0, none⟩)] w fun e w' =>
      (∃ t : Tm, Hid (pTime (xs.drop k) = .ok (t, 8)) ∧ k + 8 ≤ n ∧ e = .returned (.agg #[.int .u32 t.sec, .int .u32 t.nano]) ∧ RB w' R A n cap (k + 8) ∧ Bs w' A n xs ∧ w.grownBy w' (some R)) ∨
      (∃ er, Hid (pTime (xs.drop k) = .error er) ∧ e = .panicked (wr er) ∧ w.grownBy w' (some R)) := by
  refine (time_any hR hB hc hk).mono ?_
  rintro e w' (⟨v, j, hp, hl, rfl, hR', hg⟩ | ⟨er, hp, rfl, hg⟩)
  · have h8 : j = 8 := by
      simp only [pTime] at hp
      split at hp
      · cases hp
      · split at hp
        · injection hp with hp; injection hp with _ h2; exact h2.symm
        · cases hp
    subst h8
    exact .inl ⟨v, hp, hl, rfl, hR', hB.turn hR hg, hg⟩
  · exact .inr ⟨er, hp, rfl, hg⟩
/-- Where there are bytes enough a point of time comes, or it may not be. -/
theorem time_ok2 (hR : RB w R A n cap k) (hB : Bs w A n xs) (hc : n ≤ cap) (hk : k + 8 ≤ n) :
    Calls Tryz.prog 118 #[.pointer (some ⟨R, 0, none⟩)] w fun e w' =>
      ((tm xs k).ok = true ∧ e = .returned (.agg #[.int .u32 (tm xs k).sec, .int .u32 (tm xs k).nano]) ∧ RB w' R A n cap (k + 8) ∧ w.grownBy w' (some R)) ∨
      ((tm xs k).ok = false ∧ e = .panicked (wr 5) ∧ w.grownBy w' (some R)) := by
  have hl : 8 ≤ (xs.drop k).length := by rw [List.length_drop, hB.1]; omega
  have ht : tm (xs.drop k) 0 = tm xs k := tm_drop xs k 0
  refine (time_ok hR hB hc (by omega)).mono ?_
  rintro e w' (⟨v, hp, h8, rfl, hR', _, hg⟩ | ⟨er, hp, rfl, hg⟩)
  · by_cases ho : (tm xs k).ok = true
    · have hp := hp.out
      rw [pTime_ok hl (by rw [ht]; exact ho), ht] at hp
      injection hp with hp
      injection hp with hp _
      subst hp
      exact .inl ⟨ho, rfl, hR', hg⟩
    · have hp := hp.out
      rw [pTime_bad hl (by rw [ht]; simpa using ho)] at hp
      cases hp
  · by_cases ho : (tm xs k).ok = true
    · have hp := hp.out
      rw [pTime_ok hl (by rw [ht]; exact ho)] at hp
      cases hp
    · have hp := hp.out
      rw [pTime_bad hl (by rw [ht]; simpa using ho)] at hp
      injection hp with hp
      subst hp
      exact .inr ⟨by simpa using ho, rfl, hg⟩
theorem must_any (c : Bool) (e : Int) (w : World) : Calls Tryz.prog 31 #[.bool c, .int .i64 e] w fun r w' => (c = true ∧ r = .returned (.tuple #[]) ∧ w = w') ∨ (c = false ∧ r = .panicked (wr e) ∧ w = w') := by
  cases c
  · exact (must_no e w).mono fun r w' h => .inr ⟨rfl, h⟩
  · exact (must_yes e w).mono fun r w' h => .inl ⟨rfl, h⟩

theorem pAttrs_bad {b : List UInt8} (h : 84 ≤ b.length) (hm : atMay b = false) : pAttrs b = .error 5 := by rw [pAttrs, if_neg (by omega), hm]; rfl
theorem pAttrs_ok {b : List UInt8} (h : 84 ≤ b.length) (hm : atMay b = true) : pAttrs b = .ok (atOf b, 84) := by rw [pAttrs, if_neg (by omega), hm]; rfl
theorem int_beq_nat (m j : Nat) (c : Bool) (h : ((m : Int) == (j : Int)) = c) : (m == j) = c := by
  rw [← h, Bool.eq_iff_iff, beq_iff_eq, beq_iff_eq]; exact ⟨fun e => by rw [e], fun e => by omega⟩
def At.cells (a : At) : Array Value := #[.int .u32 a.kind, .int .u32 a.mode, .int .u32 a.links, .int .u32 a.user, .int .u32 a.group, .int .u64 a.size, .int .u64 a.used, .int .u64 a.id, .int .u32 a.read.sec, .int .u32 a.read.nano, .int .u32 a.write.sec, .int .u32 a.write.nano, .int .u32 a.turn.sec, .int .u32 a.turn.nano]
def eAttrs (a : At) : Value := .agg a.cells

end
end Go.Proofs.YtgmhapjidbdhnaaGreat
namespace Go.Proofs.YtgmhapjidbdhnaaGreat
open Go.RowKit
section
variable {A : Option Addr} {n cap k : Nat} {xs : List UInt8} {w : World}
end
def At.may (a : At) : Bool := kindOk a.kind a.mode && (a.read.ok && (a.write.ok && a.turn.ok))
/-! ### what is told of a node, as bytes -/
def At.head (a : At) : List Nat := [a.kind, a.mode, a.links, a.user, a.group]
def At.headB (a : At) (k : Nat) : List UInt8 := (a.head.take k).flatMap put4
theorem At.headB_length (a : At) (k : Nat) : (a.headB k).length ≤ 20 := by
  have : ∀ l : List Nat, (l.flatMap put4).length = 4 * l.length := fun l => by induction l with | nil => rfl | cons x l ih => simp [ih]; omega
  rw [At.headB, this, List.length_take]
  have : a.head.length = 5 := rfl
  omega
theorem At.headB_succ (a : At) (k : Nat) (h : k < 5) : a.headB (k + 1) = a.headB k ++ put4 (a.head.getD k 0) := by
  have h' : k < a.head.length := h
  rw [At.headB, At.headB, List.take_succ_eq_append_getElem h', List.flatMap_append]
  simp [List.getD, List.getElem?_eq_getElem h']
def Tm.wf (t : Tm) : Prop := t.sec < 4294967296 ∧ t.nano < 4294967296
def At.wf (a : At) : Prop := (∀ k, a.head.getD k 0 < 4294967296) ∧ a.size < 18446744073709551616 ∧ a.used < 18446744073709551616 ∧ a.id < 18446744073709551616 ∧ a.read.wf ∧ a.write.wf ∧ a.turn.wf
def putAt (a : At) : List UInt8 := a.headB 5 ++ put8 a.size ++ put8 a.used ++ put8 0 ++ put8 1 ++ put8 a.id ++ putTm a.read ++ putTm a.write ++ putTm a.turn
theorem putTm_length (t : Tm) : (putTm t).length = 8 := rfl
theorem keepA {base T : Nat} {w w' : World} {l : List Value} (hb : Below base w w') (hT : T < base) (h : ∀ o, w.cell? ⟨T, o, none⟩ = l[o]?) : ∀ o, w'.cell? ⟨T, o, none⟩ = l[o]? := fun o => (hb.cell (p := ⟨T, o, none⟩) hT).trans (h o)
end Go.Proofs.YtgmhapjidbdhnaaGreat
namespace Go.Proofs.YtgmhapjidbdhnaaGreat
open Go.RowKit
set_option maxRecDepth 100000 in
set_option maxHeartbeats 1000000 in
theorem TPut_any (t : Tm) (h1 : t.sec < 4294967296) (h2 : t.nano < 4294967296) (w : World) :
    Calls Tryz.prog 84 #[eTime t] w fun e w' => ∃ v, e = .returned v ∧ OwnB w' w.heap.size v (putTm t) ∧ Below w.heap.size w w' := by
  unfold eTime
  go_enter Tryz.func84, Tryz.ntmps84
  go_wp2_with fail
  go_region_held3 (fun wx => wx.cell? ⟨w.heap.size, 0, none⟩ = some (.int .u32 t.sec) ∧ wx.cell? ⟨w.heap.size, 1, none⟩ = some (.int .u32 t.nano)) (go_keep) (first
    | (go_at_call_of 20 (Value.int .u32 (t.sec : Int)); refine Calls.mono (Put_any _ h1 _) ?_; rintro e w1 ⟨v1, rfl, o1, b1⟩; (obtain ⟨hcx, hfx⟩ := bcell b1); (have hB1 : Below w.heap.size w w1 := bl_then (by (with_reducible (repeat' (first | exact Below.refl _ _ | assumption | apply bl_alloc | apply bl_drewN | apply bl_drew | refine bl_set ?_ ?_ _))) <;> (first | done | (simp; done) | (simp; omega) | omega)) b1); (have hz1 := b1.size); simp at hz1; (have hz1' : w.heap.size < w1.heap.size := (by omega)))
    | (go_at_call_of 20 (Value.int .u32 (t.nano : Int)); refine Calls.mono (Put_any _ h2 _) ?_; rintro e w2 ⟨v2, rfl, o2, b2⟩; (obtain ⟨hcy, hfy⟩ := bcell b2); (have o1 := o1.below b2); (have hB2 := bl_then hB1 b2); (have hz2 := b2.size); (have hz2' : w.heap.size < w2.heap.size := (by omega)))
    | (refine step_append_bytes rfl _ _ rfl rfl rfl o1 o2 (by simp) (by simp) (by simp; omega) ?_; intro v' w3 o3 b3; (have hcz : ∀ o, w3.cell? ⟨w.heap.size, o, none⟩ = w2.cell? ⟨w.heap.size, o, none⟩ := fun o => b3.cell (p := ⟨w.heap.size, o, none⟩) (by simp))))
  go_wp2
  go_ret
  exact ⟨_, rfl, o3.mono (by simp), hB2.trans (b3.mono (by simp))⟩
theorem TCheck_t (t : Tm) (w : World) : Calls Tryz.prog 86 #[.agg #[.int .u32 t.sec, .int .u32 t.nano]] w fun e w' => e = .returned (.bool t.ok) ∧ Below w.heap.size w w' := by
  refine (Check_any _ _ w).mono ?_
  rintro e w' ⟨rfl, rfl⟩
  refine ⟨?_, by (with_reducible (repeat' (first | exact Below.refl _ _ | assumption | apply bl_alloc | apply bl_drewN | apply bl_drew | refine bl_set ?_ ?_ _))) <;> (first | done | (simp; done) | (simp; omega) | omega)⟩
  have e : decide ((t.nano : Int) < 1000000000) = decide (t.nano < 1000000000) := by rw [decide_eq_decide]; omega
  rw [Tm.ok, e]
/-- A point of time as a part. -/
def rTime (t : Tm) : Except Int (List UInt8) := if t.ok then .ok (putTm t) else .error 1
theorem few_time (t : Tm) : Few (rTime t) := fun c h => by
  unfold rTime at h
  split at h
  · injection h with h; subst h; simp [putTm_length]
  · cases h
set_option maxRecDepth 100000 in
set_option maxHeartbeats 1000000 in
theorem time1_any (g : Nat) (t : Tm) (ht : t.wf) (w : World) (h0 : w.cell? ⟨g, 0, none⟩ = some (.int .u32 t.sec)) (h1 : w.cell? ⟨g, 1, none⟩ = some (.int .u32 t.nano)) (hg : g < w.heap.size) : Calls Tryz.prog 90 #[.pointer (some ⟨g, 0, none⟩)] w (GivesPost (rTime t) w) := by
  rw [rTime]
  rcases Bool.eq_false_or_eq_true t.ok with hk | hk
  · rw [if_pos hk]
    have HK := Lib.hid hk; clear hk
    go_enter Tryz.func90, Tryz.ntmps90
    go_wp2_with (first
      | (go_at_call 86; refine (TCheck_t t w).mono ?_; rw [HK.out]; rintro e w1 ⟨rfl, b1⟩; obtain ⟨hcx, hfx⟩ := bcell b1)
      | (go_at_call 31; refine (must_yes _ _).mono ?_; rintro e w' ⟨rfl, rfl⟩)
      | (go_at_call 84; refine (TPut_any t ht.1 ht.2 _).mono ?_; rintro e w2 ⟨v, rfl, o, b2⟩))
    go_ret
    exact ⟨bl_then b1 b2, .inl ⟨_, _, rfl, rfl, o.mono b1.size⟩⟩
  · rw [if_neg (by simp [hk])]
    have HK := Lib.hid hk; clear hk
    go_enter Tryz.func90, Tryz.ntmps90
    go_wp2_with (first
      | (go_at_call 86; refine (TCheck_t t w).mono ?_; rw [HK.out]; rintro e w1 ⟨rfl, b1⟩)
      | (go_at_call 31; refine (must_no _ _).mono ?_; rintro e w' ⟨rfl, rfl⟩))
    exact ⟨rfl, b1, .inr ⟨_, rfl, rfl⟩⟩
set_option maxRecDepth 100000 in
set_option maxHeartbeats 1000000 in
theorem time_mk (t : Tm) (ht : t.wf) (w : World) : Calls Tryz.prog 59 #[.agg #[.int .u32 t.sec, .int .u32 t.nano]] w (MakesPost (rTime t) w) := by
  go_enter Tryz.func59, Tryz.ntmps59
  go_wp2
  go_ret
  refine ⟨_, rfl, ⟨_, _, rfl, enters_of Tryz.func90 (by kernel_rfl) rfl, fun w' hb => time1_any _ t ht w' ?_ ?_ ?_⟩, by (with_reducible (repeat' (first | exact Below.refl _ _ | assumption | apply bl_alloc | apply bl_drewN | apply bl_drew | refine bl_set ?_ ?_ _))) <;> (first | done | (simp; done) | (simp; omega) | omega)⟩
  · rw [hb.cell (p := ⟨w.heap.size, 0, none⟩) (by simp)]; simp [go_sem]
  · rw [hb.cell (p := ⟨w.heap.size, 1, none⟩) (by simp)]; simp [go_sem]
  · have := hb.size; simp at this; omega
end Go.Proofs.YtgmhapjidbdhnaaGreat

/- attrs: parts that are put: function values that give bytes, or panic; all of them. -/
import Derived.Test.YtkaapdnjlmceoabDoorAppend
import Derived.Test.YtkaapdnjlmceoabDoorReader
import Derived.Test.YtkaapdnjlmceoabDoorPureB
set_option linter.unusedVariables false
set_option linter.unusedSimpArgs false
namespace Go.Proofs.YtkaapdnjlmceoabDoor
open Go.RowKit
/-- What a call that gives bytes comes to. -/
def GivesPost (r : Except Int (List UInt8)) (w : World) (e : Ending) (w' : World) : Prop :=
  Below w.heap.size w w' ∧ ((∃ bs v, r = .ok bs ∧ e = .returned v ∧ OwnB w' w.heap.size v bs) ∨ (∃ er, r = .error er ∧ e = .panicked (wr er)))
/-- A function value that gives these bytes, or panics so, now and later. -/
def Gives (w : World) (fv : Value) (r : Except Int (List UInt8)) : Prop :=
  ∃ f cap, fv = .func (.func f) #[] cap ∧ Enters Tryd.prog f ∧ ∀ w', Below w.heap.size w w' → Calls Tryd.prog f cap w' (GivesPost r w')
theorem Gives.below {w w' : World} {fv : Value} {r : Except Int (List UInt8)} (h : Gives w fv r) (hb : Below w.heap.size w w') : Gives w' fv r := by
  obtain ⟨f, cap, e, eg, hc⟩ := h
  exact ⟨f, cap, e, eg, fun w'' h2 => hc w'' (hb.trans (h2.mono hb.size))⟩
/-- Some parts behind one another, up to the first that is an error. -/
def catP : List (Except Int (List UInt8)) → Except Int (List UInt8)
  | [] => .ok []
  | .error e :: _ => .error e
  | .ok b :: rs => match catP rs with
    | .error e => .error e
    | .ok c => .ok (b ++ c)
theorem catP_snoc_ok {rs : List (Except Int (List UInt8))} {b : List UInt8} (h : catP rs = .ok b) (c : List UInt8) : catP (rs ++ [.ok c]) = .ok (b ++ c) := by
  induction rs generalizing b with
  | nil => simp [catP] at h ⊢; simp [← h]
  | cons r rs ih =>
    cases r with
    | error e => simp [catP] at h
    | ok x =>
      simp only [catP, List.cons_append] at h ⊢
      cases hr : catP rs with
      | error e => rw [hr] at h; cases h
      | ok y => rw [hr] at h; injection h with h; rw [ih hr, ← h]; simp
theorem catP_stop {rs rs' : List (Except Int (List UInt8))} {b : List UInt8} (h : catP rs = .ok b) (e : Int) : catP (rs ++ .error e :: rs') = .error e := by
  induction rs generalizing b with
  | nil => simp [catP]
  | cons r rs ih =>
    cases r with
    | error e => simp [catP] at h
    | ok x =>
      simp only [catP, List.cons_append] at h ⊢
      cases hr : catP rs with
      | error e => rw [hr] at h; cases h
      | ok y => rw [ih hr]
theorem catP_len {rs : List (Except Int (List UInt8))} {b : List UInt8} (h : catP rs = .ok b) (m : Nat) (hm : ∀ r ∈ rs, ∀ c, r = .ok c → c.length ≤ m) : b.length ≤ rs.length * m := by
  induction rs generalizing b with
  | nil => simp [catP] at h; simp [← h]
  | cons r rs ih =>
    cases r with
    | error e => simp [catP] at h
    | ok x =>
      simp only [catP] at h
      cases hr : catP rs with
      | error e => rw [hr] at h; cases h
      | ok y =>
        rw [hr] at h; injection h with h
        have h1 := ih hr (fun r hr' => hm r (List.mem_cons_of_mem _ hr'))
        have h2 := hm _ (List.mem_cons_self ..) x rfl
        rw [← h, List.length_append, List.length_cons, Nat.add_mul]
        omega
/-- Parts in memory. -/
def PartsB (w : World) (g : Nat) (rs : List (Except Int (List UInt8))) : Prop :=
  ∀ (i : Nat) (h : i < rs.length), ∃ fv, g < w.heap.size ∧ w.cell? ⟨g, i, none⟩ = some fv ∧ Gives w fv rs[i]
theorem PartsB.below {w w' : World} {g : Nat} {rs : List (Except Int (List UInt8))} (h : PartsB w g rs) (hb : Below w.heap.size w w') : PartsB w' g rs := by
  intro i hi
  obtain ⟨fv, hl, hc, hg⟩ := h i hi
  exact ⟨fv, Nat.lt_of_lt_of_le hl hb.size, (hb.cell (p := ⟨g, i, none⟩) hl).trans hc, hg.below hb⟩
/-- Bytes of a part: some, and not too many. -/
def Few (r : Except Int (List UInt8)) : Prop := ∀ c, r = .ok c → 0 < c.length ∧ c.length ≤ 1000
set_option maxRecDepth 100000 in
set_option maxHeartbeats 2000000 in
theorem all_any (rs : List (Except Int (List UInt8))) (g n cap : Nat) (hn : n = rs.length) (hn2 : n ≤ 1000) (hf : ∀ r ∈ rs, Few r) (w : World) (hP : PartsB w g rs) :
    Calls Tryd.prog 8 #[.slice (some ⟨g, 0, none⟩) n cap] w (GivesPost (catP rs) w) := by
  have HP := Lib.hid hP
  have HF := Lib.hid hf
  have HN := Lib.hid hn
  clear hP hf hn
  go_enter Tryd.func8, Tryd.ntmps8
  go_wp2
  go_loopw [2, 7] (fun b i wr => ∃ k : Nat, k ≤ n ∧ i = .int .i64 k ∧ ∃ bs, catP (rs.take k) = .ok bs ∧ OwnB wr w.heap.size b bs ∧ Below w.heap.size w wr)
    (fun b i wr => n - (intOf i).toNat)
  case atStart =>
    exact ⟨0, by omega, rfl, [], by simp [catP], OwnB.nil _ _, by (with_reducible (repeat' (first | exact Below.refl _ _ | assumption | apply bl_alloc | apply bl_drewN | apply bl_drew | refine bl_set ?_ ?_ _))) <;> (first | done | (simp; done) | (simp; omega) | omega)⟩
  case round =>
    obtain ⟨k, hk, rfl, bs, hcat, hO, hb⟩ := hrel
    by_cases hlt : k < n
    · have hk' : k < rs.length := by have := HN.out; omega
      obtain ⟨fv, hgl, hc, f, cp, rfl, eg, hG⟩ := HP.out k hk'
      have hc' := (hb.cell (p := ⟨g, k, none⟩) hgl).trans hc
      have hls := catP_len hcat 1000 (fun r hr c e => (HF.out r (List.mem_of_mem_take hr) c e).2)
      rw [List.length_take] at hls
      have HC := Lib.hid hcat
      clear hcat
      have HL := Lib.hid hls; clear hls
      have eg2 : ∀ (args : Array Value) (wx : World), (callFunc f args).run Tryd.prog wx = .ok (.enter f args) wx := eg
      rcases hr : rs[k] with er | cs
      · rw [hr] at hG
        have hu2 : ∃ A l c, u2 = .slice A l c := by
          rcases hO.2 with ⟨rfl, _⟩ | ⟨g1, c1, cur1, rfl, _⟩
          · exact ⟨_, _, _, rfl⟩
          · exact ⟨_, _, _, rfl⟩
        obtain ⟨A2, l2, c2, rfl⟩ := hu2
        have HR := Lib.hid hr; clear hr
        go_wp2_with (go_at_fn f; refine Calls.mono (hG _ (by (with_reducible (repeat' (first | exact Below.refl _ _ | assumption | apply bl_alloc | apply bl_drewN | apply bl_drew | refine bl_set ?_ ?_ _))) <;> (first | done | (simp; done) | (simp; omega) | omega))) ?_; rintro e w1 ⟨b1, ⟨_, _, h, _⟩ | ⟨er', h, rfl⟩⟩; (cases h); (injection h with h; subst h))
        refine ⟨rfl, bl_then (by (with_reducible (repeat' (first | exact Below.refl _ _ | assumption | apply bl_alloc | apply bl_drewN | apply bl_drew | refine bl_set ?_ ?_ _))) <;> (first | done | (simp; done) | (simp; omega) | omega)) b1, .inr ⟨er, ?_, rfl⟩⟩
        have e : rs = rs.take k ++ rs[k] :: rs.drop (k + 1) := by rw [List.getElem_cons_drop, List.take_append_drop]
        rw [e, HR.out]; exact catP_stop HC.out er
      · rw [hr] at hG
        have HR := Lib.hid hr
        have hF1 := Lib.hid (HF.out _ (List.getElem_mem hk') cs hr)
        have hls2 : Hid (bs.length ≤ 1000000) := by have := HL.out; rw [Hid]; omega
        clear hr
        go_wp2_with (first
          | (go_at_fn f; refine Calls.mono (hG _ (by (with_reducible (repeat' (first | exact Below.refl _ _ | assumption | apply bl_alloc | apply bl_drewN | apply bl_drew | refine bl_set ?_ ?_ _))) <;> (first | done | (simp; done) | (simp; omega) | omega))) ?_; rintro e w1 ⟨b1, ⟨cs', v1, h, rfl, o1⟩ | ⟨er', h, rfl⟩⟩; rotate_left; (cases h); (injection h with h; subst h; have b2 : Below w.heap.size w w1 := bl_then (by (with_reducible (repeat' (first | exact Below.refl _ _ | assumption | apply bl_alloc | apply bl_drewN | apply bl_drew | refine bl_set ?_ ?_ _))) <;> (first | done | (simp; done) | (simp; omega) | omega)) b1))
          | (at_builtin; refine wp_append_bytes rfl _ _ rfl rfl rfl (hO.below b1) o1 (hF1.out).1 (by have := hF1.out; have := hls2.out; omega) (by have := hb.size; have := b1.size; omega) ?_; intro v' w' hO' hb'; have b3 := b2.trans hb'))
        go_roundw
        case rel => exact ⟨k + 1, by omega, by congr 1, bs ++ cs, by rw [List.take_succ_eq_append_getElem hk', HR.out]; exact catP_snoc_ok HC.out cs, hO', b3⟩
        case measure => simp [intOf]; omega
    · obtain rfl : k = n := by omega
      go_wp2
      have hu2 : ∃ A l c, u2 = .slice A l c := by
        rcases hO.2 with ⟨rfl, _⟩ | ⟨g1, c1, cur1, rfl, _⟩
        · exact ⟨_, _, _, rfl⟩
        · exact ⟨_, _, _, rfl⟩
      obtain ⟨A2, l2, c2, rfl⟩ := hu2
      refine bodyPost_ret (v := .slice A2 l2 c2) (by simp [results, Tryd.results8, go_sem]) rfl ⟨by (with_reducible (repeat' (first | exact Below.refl _ _ | assumption | apply bl_alloc | apply bl_drewN | apply bl_drew | refine bl_set ?_ ?_ _))) <;> (first | done | (simp; done) | (simp; omega) | omega), .inl ⟨bs, _, ?_, rfl, hO⟩⟩
      rw [HN.out, List.take_length] at hcat; exact hcat
end Go.Proofs.YtkaapdnjlmceoabDoor

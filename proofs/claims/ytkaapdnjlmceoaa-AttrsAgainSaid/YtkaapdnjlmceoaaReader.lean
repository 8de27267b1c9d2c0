/- attrs: the reader of parts, its errors by panic, and where they are caught. -/
import Derived.Recover
import Derived.Deep.QuietTactic
import Derived.BigQuiet
import Derived.StillTailTactics
import Derived.Test.YtkaapdnjlmceoaaTimes
set_option linter.unusedVariables false
set_option linter.unusedSimpArgs false
namespace Go.Proofs.Ytkaapdnjlmceoaa
open Go.RowKit

/-- The panic by which reading, or putting, ends. -/
def wr (e : Int) : List PanicEntry := [{ v := .iface 97 (.agg #[.int .i64 e]), recovered := false }]

theorem must_yes (e : Int) (w : World) : Calls Try.prog 38 #[.bool true, .int .i64 e] w fun r w' => r = .returned (.tuple #[]) ∧ w = w' := by
  go_enter Try.func38, Try.ntmps38
  go_wp2
  go_end0
  exact ⟨rfl, rfl⟩
theorem must_no (e : Int) (w : World) : Calls Try.prog 38 #[.bool false, .int .i64 e] w fun r w' => r = .panicked (wr e) ∧ w = w' := by
  go_enter Try.func38, Try.ntmps38
  go_wp2
  exact ⟨rfl, rfl, rfl⟩

/-- What stands from k on, as the walk spells it. -/
theorem Bs.from_lt {w : World} {A : Option Addr} {n : Nat} {xs : List UInt8} (h : Bs w A n xs) (k : Nat) {cap : Nat} (hk : k ≤ n) (hc : k < cap) : Bs w (Option.map (fun x => x.add k) A) (n - k) (xs.drop k) :=
  h.drop k hk rfl (by rintro h b off rfl; rw [Option.map_some, Addr.add_lit])
theorem Bs.from_end {w : World} {A : Option Addr} {n : Nat} {xs : List UInt8} (h : Bs w A n xs) {k : Nat} (hk : k ≤ n) (hc : n ≤ k) : Bs w A (n - k) (xs.drop k) :=
  h.drop k hk rfl (by intro h; omega)

/-! ### all blocks but one -/
section
variable {a w w' : World} {r : Option Nat} {R : Nat}
theorem gb_alloc (h : a.grownBy w r) (o : Obj) : a.grownBy (w.alloc o) r := h.trans (World.grownBy_alloc w o r)
theorem gb_drew (h : a.grownBy w r) : a.grownBy w.drew r := ⟨h.os, h.tape, h.output, h.size, h.block⟩
theorem gb_drewN {m : Nat} (h : a.grownBy w r) : a.grownBy (w.drewN m) r := ⟨h.os, h.tape, h.output, h.size, h.block⟩
theorem gb_setR {j : Nat} {s : Option Nat} (h : a.grownBy w (some R)) (v : Value) : a.grownBy (w.setCell ⟨R, j, s⟩ v) (some R) :=
  h.trans ⟨rfl, rfl, rfl, by simp [World.setCell], fun i _ hne => Below.heap_setCell _ _ _ _ (by simpa using hne)⟩
theorem gb_set {p : Addr} (h : a.grownBy w r) (hp : a.heap.size ≤ p.block) (v : Value) : a.grownBy (w.setCell p v) r :=
  ⟨h.os, h.tape, h.output, by have := h.size; simpa [World.setCell] using this, fun i hi hne => (Below.heap_setCell _ _ _ _ (by omega)).trans (h.block i hi hne)⟩
theorem gb_then (h : a.grownBy w r) (k : Below w.heap.size w w') : a.grownBy w' r :=
  ⟨k.os.trans h.os, k.tape.trans h.tape, k.output.trans h.output, Nat.le_trans h.size k.size, fun i hi hne => (k.block i (Nat.lt_of_lt_of_le hi h.size)).trans (h.block i hi hne)⟩
theorem gb_alloc_then {o : Obj} (h : (a.alloc o).grownBy w r) : a.grownBy w r := (World.grownBy_alloc a o r).trans h
theorem gcell (h : a.grownBy w (some R)) : (∀ b o, b < a.heap.size → ¬ b = R → w.cell? ⟨b, o, none⟩ = a.cell? ⟨b, o, none⟩) ∧ (∀ b o, b < a.heap.size → ¬ b = R → w.frozen? ⟨b, o, none⟩ = a.frozen? ⟨b, o, none⟩) :=
  ⟨fun b o hl hne => World.cell?_of_block (a := ⟨b, o, none⟩) (h.block b hl (by simpa using hne)), fun b o hl hne => World.frozen?_of_block (a := ⟨b, o, none⟩) (h.block b hl (by simpa using hne))⟩
theorem gb_below (h : Below a.heap.size a w) : a.grownBy w r := ⟨h.os, h.tape, h.output, h.size, fun i hi _ => h.block i hi⟩
end

/-- The reader's block: the bytes, and how far it is. -/
def RB (w : World) (R : Nat) (A : Option Addr) (n cap at_ : Nat) : Prop := w.heap[R]? = some (.cells #[.slice A n cap, .int .i64 at_] 65 (0, 0))
theorem RB.lt {w : World} {R : Nat} {A : Option Addr} {n cap k : Nat} (h : RB w R A n cap k) : R < w.heap.size := (Array.getElem?_eq_some_iff.1 h).1
theorem RB.b {w : World} {R : Nat} {A : Option Addr} {n cap k : Nat} (h : RB w R A n cap k) : w.cell? ⟨R, 0, none⟩ = some (.slice A n cap) := by
  simp [World.cell?, show w.heap[R]? = _ from h]
theorem RB.at_ {w : World} {R : Nat} {A : Option Addr} {n cap k : Nat} (h : RB w R A n cap k) : w.cell? ⟨R, 1, none⟩ = some (.int .i64 k) := by
  simp [World.cell?, show w.heap[R]? = _ from h]
theorem RB.free {w : World} {R : Nat} {A : Option Addr} {n cap k : Nat} (h : RB w R A n cap k) (j : Nat) : w.frozen? ⟨R, j, none⟩ = false := by
  simp [World.frozen?, show w.heap[R]? = _ from h]
theorem RB.set {w : World} {R : Nat} {A : Option Addr} {n cap k : Nat} (h : RB w R A n cap k) (m : Nat) : RB (w.setCell ⟨R, 1, none⟩ (.int .i64 m)) R A n cap m := by
  have hlt := h.lt
  unfold RB at h ⊢
  show (w.heap.modify R _)[R]? = _
  have h' : w.heap[R] = _ := (Array.getElem?_eq_some_iff.1 h).2
  rw [Array.getElem?_eq_getElem (by simpa using hlt), Array.getElem_modify_self, h']
  rfl
theorem RB.below {w w' : World} {R : Nat} {A : Option Addr} {n cap k : Nat} (h : RB w R A n cap k) (hb : Below w.heap.size w w') : RB w' R A n cap k := (hb.block R h.lt).trans h
theorem RB.other {w : World} {R : Nat} {A : Option Addr} {n cap k : Nat} (h : RB w R A n cap k) {p : Addr} (hp : R ≠ p.block) (v : Value) : RB (w.setCell p v) R A n cap k := (Below.heap_setCell _ _ _ _ hp).trans h
theorem RB.alloc {w : World} {R : Nat} {A : Option Addr} {n cap k : Nat} (h : RB w R A n cap k) (o : Obj) : RB (w.alloc o) R A n cap k := h.below ((Below.refl _ _).alloc (Nat.le_refl _) o)
theorem grown_of_below {w w' : World} (hb : Below w.heap.size w w') (row : Option Nat) : w.grownBy w' row := ⟨hb.os, hb.tape, hb.output, hb.size, fun i hi _ => hb.block i hi⟩
theorem Bs.turn {w w' : World} {A B : Option Addr} {n m cap k R : Nat} {xs : List UInt8} (h : Bs w A n xs) (hr : RB w R B m cap k) (hg : w.grownBy w' (some R)) : Bs w' A n xs := by
  refine ⟨h.1, h.2.1, fun hn => ?_⟩
  obtain ⟨b, off, e, hl, hc⟩ := h.2.2 hn
  have hne : b ≠ R := by
    rintro rfl
    have h0 := hc 0 hn
    have hb : w.heap[b]? = _ := hr
    simp only [World.cell?, hb] at h0
    match off, h0 with
    | 0, h0 => simp at h0
    | 1, h0 => simp at h0
    | k + 2, h0 => simp at h0
  refine ⟨b, off, e, Nat.lt_of_lt_of_le hl hg.size, fun j hj => ?_⟩
  rw [World.cell?_of_block (a := ⟨b, off + j, none⟩) (hg.block b hl (by simpa using hne))]
  exact hc j hj

/-- What a part of the reading comes to: a value, and the reader so much further; or the panic. -/
def RdPost {α : Type} (p : Ps α) (enc : α → Value) (R : Nat) (A : Option Addr) (n cap at_ : Nat) (xs : List UInt8) (w : World) (e : Ending) (w' : World) : Prop :=
  (∃ v k, p (xs.drop at_) = .ok (v, k) ∧ at_ + k ≤ n ∧ e = .returned (enc v) ∧ RB w' R A n cap (at_ + k) ∧ w.grownBy w' (some R)) ∨
  (∃ er, p (xs.drop at_) = .error er ∧ e = .panicked (wr er) ∧ w.grownBy w' (some R))

def eNum (n : Nat) : Value := .int .u32 n
def eLong (n : Nat) : Value := .int .u64 n
def eYes (b : Bool) : Value := .bool b

section
variable {R : Nat} {A : Option Addr} {n cap k : Nat} {xs : List UInt8} {w : World}
theorem grown_set (w : World) (R j : Nat) (v : Value) : w.grownBy (w.setCell ⟨R, j, none⟩ v) (some R) :=
  ⟨rfl, rfl, rfl, by simp [World.setCell], fun i hi hne => Below.heap_setCell _ _ _ _ (by simpa using hne)⟩
theorem grown_drewN (w : World) (m : Nat) (row : Option Nat) : w.grownBy (w.drewN m) row := ⟨rfl, rfl, rfl, Nat.le_refl _, fun _ _ _ => rfl⟩
theorem Bs.drewN {B : Option Addr} {m : Nat} {ys : List UInt8} (h : Bs w B m ys) (j : Nat) : Bs (w.drewN j) B m ys := h.below ⟨rfl, rfl, rfl, Nat.le_refl _, fun _ _ => rfl⟩
theorem RB.drewN (h : RB w R A n cap k) (m : Nat) : RB (w.drewN m) R A n cap k := h

set_option maxRecDepth 100000 in
set_option maxHeartbeats 2000000 in
theorem next32_any (hR : RB w R A n cap k) (hB : Bs w A n xs) (hc : n ≤ cap) (hk : k ≤ n) :
    Calls Try.prog 63 #[.pointer (some ⟨R, 0, none⟩), .func (.func 64) #[] #[], .int .i64 4] w (RdPost pNum eNum R A n cap k xs w) := by
  have h0 := hR.b; have h1 := hR.at_; have hf := hR.free 1
  have hn := hB.2.1
  have HR := Lib.hid hR; have HB := Lib.hid hB
  by_cases hs : n - k < 4
  · have hp : Hid (pNum (xs.drop k) = .error 4) := by simp [Hid, pNum, hB.1, hs]
    clear hR hB
    rcases Nat.lt_or_ge k cap with hck | hck
    · have hD := Lib.hid (HB.out.from_lt k hk hck)
      have hne : ¬ cap = k := by omega
      go_enter Try.func63, Try.ntmps63
      go_wp2_with fail
      go_quiet ((go_at_call 64; refine (Get_short _ _ _ _ _ (hD.out.drewN _) hs).mono ?_; rintro e w' ⟨rfl, rfl⟩; exact ⟨rfl, _, rfl⟩))
      go_wp2_with (go_at_call 38; refine (must_no _ _).mono ?_; rintro e w' ⟨rfl, rfl⟩)
      exact ⟨rfl, .inr ⟨4, hp.out, rfl, grown_drewN _ _ _⟩⟩
    · obtain rfl : n = cap := by omega
      obtain rfl : k = n := by omega
      have hD := Lib.hid (Bs.nil w A)
      go_enter Try.func63, Try.ntmps63
      go_wp2_with fail
      go_quiet ((go_at_call 64; refine (Get_short _ _ _ _ _ (hD.out.drewN _) (by omega)).mono ?_; rintro e w' ⟨rfl, rfl⟩; exact ⟨rfl, _, rfl⟩))
      go_wp2_with (go_at_call 38; refine (must_no _ _).mono ?_; rintro e w' ⟨rfl, rfl⟩)
      exact ⟨rfl, .inr ⟨4, hp.out, rfl, grown_drewN _ _ _⟩⟩
  · have hp : Hid (pNum (xs.drop k) = .ok (beN ((xs.drop k).take 4), 4)) := by simp [Hid, pNum, hB.1, hs]
    clear hR hB
    have hc' : n - k ≤ cap - k := by omega
    have hs' : 4 ≤ n - k := by omega
    have hck : k < cap := by omega
    have hD := Lib.hid (HB.out.from_lt k hk hck)
    have hne : ¬ cap = k := by omega
    have hl : k + 4 ≤ n := by omega
    clear hs
    go_enter Try.func63, Try.ntmps63
    go_wp2_with fail
    go_quiet ((go_at_call 64; refine (Get_full _ _ _ _ _ (hD.out.drewN _) hc' hs').mono ?_; rintro e w' ⟨rfl, rfl⟩; exact ⟨rfl, _, rfl⟩))
    go_wp2_with (go_at_call 38; refine (must_yes _ _).mono ?_; rintro e w' ⟨rfl, rfl⟩)
    go_ret
    refine .inl ⟨_, 4, hp.out, hl, rfl, ?_, ?_⟩
    · exact (RB.drewN HR.out nq).set (k + 4)
    · exact (grown_drewN w nq (some R)).trans (grown_set _ R 1 _)
set_option maxRecDepth 100000 in
set_option maxHeartbeats 2000000 in
theorem next64_any (hR : RB w R A n cap k) (hB : Bs w A n xs) (hc : n ≤ cap) (hk : k ≤ n) :
    Calls Try.prog 65 #[.pointer (some ⟨R, 0, none⟩), .func (.func 66) #[] #[], .int .i64 8] w (RdPost pLong eLong R A n cap k xs w) := by
  have h0 := hR.b; have h1 := hR.at_; have hf := hR.free 1
  have hn := hB.2.1
  have HR := Lib.hid hR; have HB := Lib.hid hB
  by_cases hs : n - k < 8
  · have hp : Hid (pLong (xs.drop k) = .error 4) := by simp [Hid, pLong, hB.1, hs]
    clear hR hB
    rcases Nat.lt_or_ge k cap with hck | hck
    · have hD := Lib.hid (HB.out.from_lt k hk hck)
      have hne : ¬ cap = k := by omega
      go_enter Try.func65, Try.ntmps65
      go_wp2_with fail
      go_quiet ((go_at_call 66; refine (GetLong_short _ _ _ _ _ (hD.out.drewN _) hs).mono ?_; rintro e w' ⟨rfl, rfl⟩; exact ⟨rfl, _, rfl⟩))
      go_wp2_with (go_at_call 38; refine (must_no _ _).mono ?_; rintro e w' ⟨rfl, rfl⟩)
      exact ⟨rfl, .inr ⟨4, hp.out, rfl, grown_drewN _ _ _⟩⟩
    · obtain rfl : n = cap := by omega
      obtain rfl : k = n := by omega
      have hD := Lib.hid (Bs.nil w A)
      go_enter Try.func65, Try.ntmps65
      go_wp2_with fail
      go_quiet ((go_at_call 66; refine (GetLong_short _ _ _ _ _ (hD.out.drewN _) (by omega)).mono ?_; rintro e w' ⟨rfl, rfl⟩; exact ⟨rfl, _, rfl⟩))
      go_wp2_with (go_at_call 38; refine (must_no _ _).mono ?_; rintro e w' ⟨rfl, rfl⟩)
      exact ⟨rfl, .inr ⟨4, hp.out, rfl, grown_drewN _ _ _⟩⟩
  · have hp : Hid (pLong (xs.drop k) = .ok (beN ((xs.drop k).take 8), 8)) := by simp [Hid, pLong, hB.1, hs]
    clear hR hB
    have hc' : n - k ≤ cap - k := by omega
    have hs' : 8 ≤ n - k := by omega
    have hck : k < cap := by omega
    have hD := Lib.hid (HB.out.from_lt k hk hck)
    have hne : ¬ cap = k := by omega
    have hl : k + 8 ≤ n := by omega
    clear hs
    go_enter Try.func65, Try.ntmps65
    go_wp2_with fail
    go_quiet ((go_at_call 66; refine (GetLong_full _ _ _ _ _ (hD.out.drewN _) hc' hs').mono ?_; rintro e w' ⟨rfl, rfl⟩; exact ⟨rfl, _, rfl⟩))
    go_wp2_with (go_at_call 38; refine (must_yes _ _).mono ?_; rintro e w' ⟨rfl, rfl⟩)
    go_ret
    refine .inl ⟨_, 8, hp.out, hl, rfl, ?_, ?_⟩
    · exact (RB.drewN HR.out nq).set (k + 8)
    · exact (grown_drewN w nq (some R)).trans (grown_set _ R 1 _)
set_option maxRecDepth 100000 in
set_option maxHeartbeats 2000000 in
theorem nextYes_any (hR : RB w R A n cap k) (hB : Bs w A n xs) (hc : n ≤ cap) (hk : k ≤ n) :
    Calls Try.prog 72 #[.pointer (some ⟨R, 0, none⟩), .func (.func 73) #[] #[], .int .i64 4] w (RdPost pYes eYes R A n cap k xs w) := by
  have h0 := hR.b; have h1 := hR.at_; have hf := hR.free 1
  have hn := hB.2.1
  have HR := Lib.hid hR; have HB := Lib.hid hB
  obtain ⟨A', hD0, hA'⟩ : ∃ A', Bs w A' (n - k) (xs.drop k) ∧ A' = if cap = k then A else Option.map (fun x => x.add k) A := by
    by_cases hck : cap = k
    · exact ⟨A, HB.out.from_end hk (by omega), by rw [if_pos hck]⟩
    · exact ⟨_, HB.out.from_lt k hk (show k < cap by omega), by rw [if_neg hck]⟩
  have hc' : n - k ≤ cap - k := by omega
  have hex : (∃ y, pYes (xs.drop k) = .ok (y, 4) ∧ yesOf (xs.drop k) = (y, 0) ∧ k + 4 ≤ n) ∨ (∃ e, pYes (xs.drop k) = .error e ∧ yesOf (xs.drop k) = (false, e) ∧ ((e == 0) = false)) := by
    have hl : (xs.drop k).length = n - k := by rw [List.length_drop, hB.1]
    by_cases h4 : n - k < 4
    · exact .inr ⟨4, by simp [pYes, hl, h4], by simp [yesOf, pYes, hl, h4], rfl⟩
    · by_cases h1 : beN ((xs.drop k).take 4) > 1
      · exact .inr ⟨5, by simp only [pYes, hl, h4, if_false, h1, if_true], by simp only [yesOf, pYes, hl, h4, if_false, h1, if_true], rfl⟩
      · exact .inl ⟨beN ((xs.drop k).take 4) == 1, by simp only [pYes, hl, h4, if_false, h1], by simp only [yesOf, pYes, hl, h4, if_false, h1], by omega⟩
  clear hR hB
  rcases hex with ⟨y, hp, hy, hl⟩ | ⟨er, hp, hy, he0⟩
  · have hp := Lib.hid hp
    have hck : k < cap := by omega
    have hD := Lib.hid (HB.out.from_lt k hk hck)
    have hne : ¬ cap = k := by omega
    have hG := Lib.hid (fun w => GetYes_any (Option.map (fun x => x.add k) A) (n - k) (cap - k) (xs.drop k) w)
    rw [hy] at hG
    clear hD0 hA' hy
    go_enter Try.func72, Try.ntmps72
    go_wp2_with fail
    go_quiet ((go_at_call 73; refine (hG.out _ (hD.out.drewN _) hc').mono ?_; rintro e w' ⟨rfl, rfl⟩; exact ⟨rfl, _, rfl⟩))
    go_wp2_with (go_at_call 38; refine (must_yes _ _).mono ?_; rintro e w' ⟨rfl, rfl⟩)
    go_ret
    refine .inl ⟨_, 4, Hid.out ‹Hid (pYes _ = _)›, hl, rfl, ?_, ?_⟩
    · exact (RB.drewN HR.out nq).set (k + 4)
    · exact (grown_drewN w nq (some R)).trans (grown_set _ R 1 _)
  · have hp := Lib.hid hp
    rcases Nat.lt_or_ge k cap with hck | hck
    · have hD := Lib.hid (HB.out.from_lt k hk hck)
      have hne : ¬ cap = k := by omega
      have hG := Lib.hid (fun w => GetYes_any (Option.map (fun x => x.add k) A) (n - k) (cap - k) (xs.drop k) w)
      rw [hy] at hG
      clear hD0 hA' hy
      go_enter Try.func72, Try.ntmps72
      go_wp2_with fail
      go_quiet ((go_at_call 73; refine (hG.out _ (hD.out.drewN _) hc').mono ?_; rintro e w' ⟨rfl, rfl⟩; exact ⟨rfl, _, rfl⟩))
      go_wp2_with (go_at_call 38; refine (must_no _ _).mono ?_; rintro e w' ⟨rfl, rfl⟩)
      exact ⟨rfl, .inr ⟨er, Hid.out ‹Hid (pYes _ = _)›, rfl, grown_drewN _ _ _⟩⟩
    · obtain rfl : n = cap := by omega
      obtain rfl : k = n := by omega
      have hD := Lib.hid (Bs.nil w A)
      have hG := Lib.hid (fun w => GetYes_any A 0 0 [] w)
      have he : xs.drop k = [] := List.eq_nil_of_length_eq_zero (by rw [List.length_drop, HB.out.1]; omega)
      rw [he] at hy
      rw [hy] at hG
      clear hD0 hA' hy he
      go_enter Try.func72, Try.ntmps72
      go_wp2_with fail
      go_quiet ((go_at_call 73; refine (hG.out _ (hD.out.drewN _) (Nat.le_refl 0)).mono ?_; rintro e w' ⟨rfl, rfl⟩; exact ⟨rfl, _, rfl⟩))
      go_wp2_with (go_at_call 38; refine (must_no _ _).mono ?_; rintro e w' ⟨rfl, rfl⟩)
      exact ⟨rfl, .inr ⟨er, Hid.out ‹Hid (pYes _ = _)›, rfl, grown_drewN _ _ _⟩⟩
theorem number_any (hR : RB w R A n cap k) (hB : Bs w A n xs) (hc : n ≤ cap) (hk : k ≤ n) :
    Calls Try.prog 37 #[.pointer (some ⟨R, 0, none⟩)] w (RdPost pNum eNum R A n cap k xs w) := by
  have HR := Lib.hid hR; have HB := Lib.hid hB
  clear hR hB
  go_enter Try.func37, Try.ntmps37
  go_wp2_with fail
  refine (next32_any HR.out HB.out hc hk).mono ?_
  rintro e w' (⟨v, j, hp, hl, rfl, h⟩ | ⟨er, hp, rfl, hg⟩)
  · have hp := Lib.hid hp; have h := Lib.hid h
    go_wp2
    go_ret
    exact .inl ⟨v, j, Hid.out ‹Hid (pNum _ = _)›, hl, rfl, Hid.out ‹_›⟩
  · have hp := Lib.hid hp; have hg := Lib.hid hg
    go_wp2
    exact ⟨rfl, .inr ⟨er, Hid.out ‹Hid (pNum _ = _)›, rfl, Hid.out ‹_›⟩⟩
theorem long_any (hR : RB w R A n cap k) (hB : Bs w A n xs) (hc : n ≤ cap) (hk : k ≤ n) :
    Calls Try.prog 40 #[.pointer (some ⟨R, 0, none⟩)] w (RdPost pLong eLong R A n cap k xs w) := by
  have HR := Lib.hid hR; have HB := Lib.hid hB
  clear hR hB
  go_enter Try.func40, Try.ntmps40
  go_wp2_with fail
  refine (next64_any HR.out HB.out hc hk).mono ?_
  rintro e w' (⟨v, j, hp, hl, rfl, h⟩ | ⟨er, hp, rfl, hg⟩)
  · have hp := Lib.hid hp; have h := Lib.hid h
    go_wp2
    go_ret
    exact .inl ⟨v, j, Hid.out ‹Hid (pLong _ = _)›, hl, rfl, Hid.out ‹_›⟩
  · have hp := Lib.hid hp; have hg := Lib.hid hg
    go_wp2
    exact ⟨rfl, .inr ⟨er, Hid.out ‹Hid (pLong _ = _)›, rfl, Hid.out ‹_›⟩⟩
theorem yes_any (hR : RB w R A n cap k) (hB : Bs w A n xs) (hc : n ≤ cap) (hk : k ≤ n) :
    Calls Try.prog 43 #[.pointer (some ⟨R, 0, none⟩)] w (RdPost pYes eYes R A n cap k xs w) := by
  have HR := Lib.hid hR; have HB := Lib.hid hB
  clear hR hB
  go_enter Try.func43, Try.ntmps43
  go_wp2_with fail
  refine (nextYes_any HR.out HB.out hc hk).mono ?_
  rintro e w' (⟨v, j, hp, hl, rfl, h⟩ | ⟨er, hp, rfl, hg⟩)
  · have hp := Lib.hid hp; have h := Lib.hid h
    go_wp2
    go_ret
    exact .inl ⟨v, j, Hid.out ‹Hid (pYes _ = _)›, hl, rfl, Hid.out ‹_›⟩
  · have hp := Lib.hid hp; have hg := Lib.hid hg
    go_wp2
    exact ⟨rfl, .inr ⟨er, Hid.out ‹Hid (pYes _ = _)›, rfl, Hid.out ‹_›⟩⟩
end
end Go.Proofs.Ytkaapdnjlmceoaa

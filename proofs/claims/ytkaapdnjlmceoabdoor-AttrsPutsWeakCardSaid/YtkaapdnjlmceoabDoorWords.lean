/- words: numbers of four and eight bytes, yes and no, as they are read. -/
import Derived.WalkKit
import Derived.WalkSpells
import Derived.WalkLawsBesides
import Derived.Lib.Hide
import Derived.Outline
import Derived.Test.YtkaapdnjlmceoabDoorProg
import Derived.Test.YtkaapdnjlmceoabDoorPure
import Derived.Test.YtkaapdnjlmceoabDoorPutw
set_option linter.unusedVariables false
set_option linter.unusedSimpArgs false
namespace Go.Proofs.YtkaapdnjlmceoabDoor
open Go.RowKit

theorem bl_alloc {a w : World} (h : Below a.heap.size a w) (o : Obj) : Below a.heap.size a (w.alloc o) := h.alloc h.size o
theorem bl_set {a w : World} {p : Addr} (h : Below a.heap.size a w) (hp : a.heap.size ≤ p.block) (v : Value) : Below a.heap.size a (w.setCell p v) := h.setCell hp v
theorem bl_drew {a w : World} (h : Below a.heap.size a w) : Below a.heap.size a w.drew := h.drew
theorem bl_drewN {a w : World} {m : Nat} (h : Below a.heap.size a w) : Below a.heap.size a (w.drewN m) := ⟨h.os, h.tape, h.output, h.size, h.block⟩
theorem bl_then {a w w' : World} (h : Below a.heap.size a w) (k : Below w.heap.size w w') : Below a.heap.size a w' := h.trans (k.mono h.size)

theorem bl_then' {a w w' : World} (k : Below w.heap.size w w') (h : Below a.heap.size a w) : Below a.heap.size a w' := bl_then h k
theorem bcell {W w1 : World} (hb : Below W.heap.size W w1) : (∀ b o, b < W.heap.size → w1.cell? ⟨b, o, none⟩ = W.cell? ⟨b, o, none⟩) ∧ (∀ b o, b < W.heap.size → w1.frozen? ⟨b, o, none⟩ = W.frozen? ⟨b, o, none⟩) :=
  ⟨fun b o h => hb.cell (p := ⟨b, o, none⟩) h, fun b o h => hb.frozen (p := ⟨b, o, none⟩) h⟩

/-- A slice of bytes that can be read: at address A stand the n bytes xs. -/
def Bs (w : World) (A : Option Addr) (n : Nat) (xs : List UInt8) : Prop :=
  xs.length = n ∧ n ≤ 9223372036854775807 ∧ (0 < n → ∃ b off, A = some ⟨b, off, none⟩ ∧ b < w.heap.size ∧ ∀ j, j < n → w.cell? ⟨b, off + j, none⟩ = some (.int .u8 (xs.getD j 0).toNat))
theorem Bs.len {w : World} {A : Option Addr} {n : Nat} {xs : List UInt8} (h : Bs w A n xs) : xs.length = n := h.1
theorem Bs.le {w : World} {A : Option Addr} {n : Nat} {xs : List UInt8} (h : Bs w A n xs) : n ≤ 9223372036854775807 := h.2.1
theorem Bs.below {w w' : World} {A : Option Addr} {n : Nat} {xs : List UInt8} (h : Bs w A n xs) (hb : Below w.heap.size w w') : Bs w' A n xs :=
  ⟨h.1, h.2.1, fun hn => by
    obtain ⟨b, off, e, hl, hc⟩ := h.2.2 hn
    exact ⟨b, off, e, Nat.lt_of_lt_of_le hl hb.size, fun j hj => (hb.cell (p := ⟨b, off + j, none⟩) hl).trans (hc j hj)⟩⟩
theorem Bs.drew {w : World} {A : Option Addr} {n : Nat} {xs : List UInt8} (h : Bs w A n xs) : Bs w.drew A n xs := h.below ((Below.refl _ _).drew)
theorem Bs.alloc {w : World} {A : Option Addr} {n : Nat} {xs : List UInt8} (h : Bs w A n xs) (o : Obj) : Bs (w.alloc o) A n xs := h.below ((Below.refl _ _).alloc (Nat.le_refl _) o)
/-- What stands from k on. -/
theorem Bs.drop {w : World} {A A' : Option Addr} {n m : Nat} {xs : List UInt8} (h : Bs w A n xs) (k : Nat) (hk : k ≤ n) (hm : m = n - k) (hA : k < n → ∀ b off, A = some ⟨b, off, none⟩ → A' = some ⟨b, off + k, none⟩) : Bs w A' m (xs.drop k) := by
  subst hm
  refine ⟨by rw [List.length_drop, h.1], by have := h.2.1; omega, fun hn => ?_⟩
  obtain ⟨b, off, e, hl, hc⟩ := h.2.2 (by omega)
  refine ⟨b, off + k, hA (by omega) b off e, hl, fun j hj => ?_⟩
  rw [Nat.add_assoc, hc (k + j) (by omega)]
  simp [List.getD, List.getElem?_drop]
/-- The first k of them. -/
theorem Bs.take {w : World} {A : Option Addr} {n : Nat} {xs : List UInt8} (h : Bs w A n xs) (k : Nat) (hk : k ≤ n) : Bs w A k (xs.take k) := by
  refine ⟨by rw [List.length_take, h.1]; omega, by have := h.2.1; omega, fun hn => ?_⟩
  obtain ⟨b, off, e, hl, hc⟩ := h.2.2 (by omega)
  refine ⟨b, off, e, hl, fun j hj => ?_⟩
  rw [hc j (by omega)]
  have : j < xs.length := by rw [h.1]; omega
  simp [List.getD, List.getElem?_take, hj]
theorem Bs.nil (w : World) (A : Option Addr) : Bs w A 0 [] := ⟨rfl, by omega, fun h => absurd h (by omega)⟩

/-- A slice of bytes of the call's own, in a block from base on. -/
def OwnB (w : World) (base : Nat) (v : Value) (bs : List UInt8) : Prop := w.ownsRow base 5 1 v bs.length (u8s bs)
theorem OwnB.reads {w : World} {base : Nat} {v : Value} {bs : List UInt8} (h : OwnB w base v bs) : ∃ A c, v = .slice A bs.length c ∧ bs.length ≤ c ∧ c ≤ 9223372036854775807 ∧ Bs w A bs.length bs := by
  have h' := h
  unfold OwnB at h
  rcases h.2 with ⟨rfl, h0⟩ | ⟨g, cap, cur, rfl, hb, hh, hn, hc, hs, ht⟩
  · have : bs = [] := List.eq_nil_of_length_eq_zero h0
    subst this
    exact ⟨none, 0, rfl, Nat.le_refl _, by omega, Bs.nil _ _⟩
  · simp only [maxLen] at hc
    refine ⟨_, cap, rfl, hn, by omega, rfl, by omega, fun hp => ⟨g, 0, rfl, (Array.getElem?_eq_some_iff.1 hh).1, fun j hj => ?_⟩⟩
    have e := h.cellAt j (by simpa [u8s] using hj)
    rw [Nat.zero_add, e]
    simp [u8s, List.getD, List.getElem?_eq_getElem hj]
theorem OwnB.below {w w' : World} {base : Nat} {v : Value} {bs : List UInt8} (h : OwnB w base v bs) (hb : Below w.heap.size w w') : OwnB w' base v bs :=
  World.ownsRow.kept h (row := none) ⟨hb.os, hb.tape, hb.output, hb.size, fun i hi _ => hb.block i hi⟩ (by cases v.ownBlock <;> simp)
theorem OwnB.mono {w : World} {base base' : Nat} {v : Value} {bs : List UInt8} (h : OwnB w base v bs) (hb : base' ≤ base) : OwnB w base' v bs := by
  refine ⟨h.1, ?_⟩
  rcases h.2 with h0 | ⟨g, cap, cur, e, hg, r⟩
  · exact .inl h0
  · exact .inr ⟨g, cap, cur, e, by omega, r⟩

theorem wraps_u32' (n : Int) (h₀ : 0 ≤ n) (h₁ : n < 2 ^ 32) : IntKind.u32.wrap n = n := IntWalk.u32_in n (by omega)
theorem or_u32 (x : Nat) (c : Nat) (hc : c < 256) (hx : x * 256 < 4294967296) : bits .or .u32 ((x : Int) * 256) c = ((256 * x + c : Nat) : Int) := by
  rw [bits_join .u32 32 (by decide) wraps_u32' 8 _ _ (by omega) (by omega) (by omega) (by omega) (by omega) (by omega)]
  omega
theorem wraps_u64' (n : Int) (h₀ : 0 ≤ n) (h₁ : n < 2 ^ 64) : IntKind.u64.wrap n = n := IntWalk.u64_in n (by omega)
theorem or_u64 (x : Nat) (c : Nat) (hc : c < 256) (hx : x * 256 < 18446744073709551616) : bits .or .u64 ((x : Int) * 256) c = ((256 * x + c : Nat) : Int) := by
  rw [bits_join .u64 64 (by decide) wraps_u64' 8 _ _ (by omega) (by omega) (by omega) (by omega) (by omega) (by omega)]
  omega

section
variable (A : Option Addr) (n cap : Nat) (xs : List UInt8) (w : World)
/-- Whether the next number is yes: a value and an error. -/
def yesOf (xs : List UInt8) : Bool × Int := match pYes xs with | .ok (y, _) => (y, 0) | .error e => (false, e)
end

theorem Put_any (n : Nat) (hn : n < 4294967296) (w : World) :
    Calls Tryd.prog 58 #[.int .u32 n] w fun e w' => ∃ v, e = .returned v ∧ OwnB w' w.heap.size v (put4 n) ∧ Below w.heap.size w w' := by
  have h64 : n < 18446744073709551616 := by omega
  go_enter Tryd.func58, Tryd.ntmps58
  go_wp2_with (go_at_call 60; refine (put_calls n 4 h64 (.inl rfl) w).mono ?_; rintro e w' ⟨v, rfl, h⟩)
  go_ret
  refine ⟨v, rfl, ?_⟩
  rw [bts4] at h
  exact h
theorem PutLong_any (n : Nat) (hn : n < 18446744073709551616) (w : World) :
    Calls Tryd.prog 27 #[.int .u64 n] w fun e w' => ∃ v, e = .returned v ∧ OwnB w' w.heap.size v (put8 n) ∧ Below w.heap.size w w' := by
  go_enter Tryd.func27, Tryd.ntmps27
  go_wp2_with (go_at_call 60; refine (put_calls n 8 hn (.inr rfl) w).mono ?_; rintro e w' ⟨v, rfl, h⟩)
  go_ret
  refine ⟨v, rfl, ?_⟩
  rw [bts8] at h
  exact h
theorem PutYes_any (y : Bool) (w : World) :
    Calls Tryd.prog 24 #[.bool y] w fun e w' => ∃ v, e = .returned v ∧ OwnB w' w.heap.size v (putYes y) ∧ Below w.heap.size w w' := by
  cases y
  · go_enter Tryd.func24, Tryd.ntmps24
    go_wp2_with (go_at_call 58; refine (Put_any 0 (by omega) w).mono ?_; rintro e w' ⟨v, rfl, h⟩)
    go_ret
    exact ⟨v, rfl, h⟩
  · go_enter Tryd.func24, Tryd.ntmps24
    go_wp2_with (go_at_call 58; refine (Put_any 1 (by omega) w).mono ?_; rintro e w' ⟨v, rfl, h⟩)
    go_ret
    exact ⟨v, rfl, h⟩
end Go.Proofs.YtkaapdnjlmceoabDoor

/- attrs: the reader of parts, its errors by panic, and where they are caught. -/
import Derived.Recover
import Derived.Deep.QuietTactic
import Derived.BigQuiet
import Derived.StillTailTactics
import Derived.Test.YtkaapdnjlmceoabDoorTimes
set_option linter.unusedVariables false
set_option linter.unusedSimpArgs false
namespace Go.Proofs.YtkaapdnjlmceoabDoor
open Go.RowKit

/-- The panic by which reading, or putting, ends. -/
def wr (e : Int) : List PanicEntry := [{ v := .iface 64 (.agg #[.int .i64 e]), recovered := false }]

theorem must_yes (e : Int) (w : World) : Calls Tryd.prog 23 #[.bool true, .int .i64 e] w fun r w' => r = .returned (.tuple #[]) ∧ w = w' := by
  go_enter Tryd.func23, Tryd.ntmps23
  go_wp2
  go_end0
  exact ⟨rfl, rfl⟩
theorem must_no (e : Int) (w : World) : Calls Tryd.prog 23 #[.bool false, .int .i64 e] w fun r w' => r = .panicked (wr e) ∧ w = w' := by
  go_enter Tryd.func23, Tryd.ntmps23
  go_wp2
  exact ⟨rfl, rfl, rfl⟩

/-- What stands from k on, as the walk spells it. -/
theorem Bs.from_lt {w : World} {A : Option Addr} {n : Nat} {xs : List UInt8} (h : Bs w A n xs) (k : Nat) {cap : Nat} (hk : k ≤ n) (hc : k < cap) : Bs w (Option.map (fun x => x.add k) A) (n - k) (xs.drop k) :=
  h.drop k hk rfl (by rintro h b off rfl; rw [Option.map_some, Addr.add_lit])
theorem Bs.from_end {w : World} {A : Option Addr} {n : Nat} {xs : List UInt8} (h : Bs w A n xs) {k : Nat} (hk : k ≤ n) (hc : n ≤ k) : Bs w A (n - k) (xs.drop k) :=
  h.drop k hk rfl (by intro h; omega)

/-! ### all blocks but one -/
section
variable {a w w' : World} {r : Option Nat} {R : Nat}
theorem gb_alloc (h : a.grownBy w r) (o : Obj) : a.grownBy (w.alloc o) r := h.trans (World.grownBy_alloc w o r)
theorem gb_drew (h : a.grownBy w r) : a.grownBy w.drew r := ⟨h.os, h.tape, h.output, h.size, h.block⟩
theorem gb_drewN {m : Nat} (h : a.grownBy w r) : a.grownBy (w.drewN m) r := ⟨h.os, h.tape, h.output, h.size, h.block⟩
theorem gb_setR {j : Nat} {s : Option Nat} (h : a.grownBy w (some R)) (v : Value) : a.grownBy (w.setCell ⟨R, j, s⟩ v) (some R) :=
  h.trans ⟨rfl, rfl, rfl, by simp [World.setCell], fun i _ hne => Below.heap_setCell _ _ _ _ (by simpa using hne)⟩
theorem gb_set {p : Addr} (h : a.grownBy w r) (hp : a.heap.size ≤ p.block) (v : Value) : a.grownBy (w.setCell p v) r :=
  ⟨h.os, h.tape, h.output, by have := h.size; simpa [World.setCell] using this, fun i hi hne => (Below.heap_setCell _ _ _ _ (by omega)).trans (h.block i hi hne)⟩
theorem gb_then (h : a.grownBy w r) (k : Below w.heap.size w w') : a.grownBy w' r :=
  ⟨k.os.trans h.os, k.tape.trans h.tape, k.output.trans h.output, Nat.le_trans h.size k.size, fun i hi hne => (k.block i (Nat.lt_of_lt_of_le hi h.size)).trans (h.block i hi hne)⟩
theorem gb_alloc_then {o : Obj} (h : (a.alloc o).grownBy w r) : a.grownBy w r := (World.grownBy_alloc a o r).trans h
theorem gcell (h : a.grownBy w (some R)) : (∀ b o, b < a.heap.size → ¬ b = R → w.cell? ⟨b, o, none⟩ = a.cell? ⟨b, o, none⟩) ∧ (∀ b o, b < a.heap.size → ¬ b = R → w.frozen? ⟨b, o, none⟩ = a.frozen? ⟨b, o, none⟩) :=
  ⟨fun b o hl hne => World.cell?_of_block (a := ⟨b, o, none⟩) (h.block b hl (by simpa using hne)), fun b o hl hne => World.frozen?_of_block (a := ⟨b, o, none⟩) (h.block b hl (by simpa using hne))⟩
theorem gb_below (h : Below a.heap.size a w) : a.grownBy w r := ⟨h.os, h.tape, h.output, h.size, fun i hi _ => h.block i hi⟩
end

theorem grown_of_below {w w' : World} (hb : Below w.heap.size w w') (row : Option Nat) : w.grownBy w' row := ⟨hb.os, hb.tape, hb.output, hb.size, fun i hi _ => hb.block i hi⟩
def eNum (n : Nat) : Value := .int .u32 n
def eLong (n : Nat) : Value := .int .u64 n
def eYes (b : Bool) : Value := .bool b

section
variable {R : Nat} {A : Option Addr} {n cap k : Nat} {xs : List UInt8} {w : World}
theorem grown_set (w : World) (R j : Nat) (v : Value) : w.grownBy (w.setCell ⟨R, j, none⟩ v) (some R) :=
  ⟨rfl, rfl, rfl, by simp [World.setCell], fun i hi hne => Below.heap_setCell _ _ _ _ (by simpa using hne)⟩
theorem grown_drewN (w : World) (m : Nat) (row : Option Nat) : w.grownBy (w.drewN m) row := ⟨rfl, rfl, rfl, Nat.le_refl _, fun _ _ _ => rfl⟩
theorem Bs.drewN {B : Option Addr} {m : Nat} {ys : List UInt8} (h : Bs w B m ys) (j : Nat) : Bs (w.drewN j) B m ys := h.below ⟨rfl, rfl, rfl, Nat.le_refl _, fun _ _ => rfl⟩
end
end Go.Proofs.YtkaapdnjlmceoabDoor

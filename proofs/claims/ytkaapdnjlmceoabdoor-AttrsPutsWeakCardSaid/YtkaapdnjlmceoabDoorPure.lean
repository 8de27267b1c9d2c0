/- Plain definitions and lemmas: bytes, numbers of four and eight bytes, parsers and printers of the document's parts. No program in sight. -/
import Derived.WalkKit
import Derived.Lib.Hide
set_option linter.unusedVariables false
set_option linter.unusedSimpArgs false
namespace Go.Proofs.YtkaapdnjlmceoabDoor
open Go.RowKit

/-! ### bytes and numbers -/
def beN (l : List UInt8) : Nat := l.foldl (fun n c => 256 * n + c.toNat) 0
theorem beN_snoc (l : List UInt8) (c : UInt8) : beN (l ++ [c]) = 256 * beN l + c.toNat := by simp [beN]
theorem beN_acc (l : List UInt8) : ∀ a : Nat, l.foldl (fun n c => 256 * n + c.toNat) a = a * 256 ^ l.length + beN l := by
  induction l with
  | nil => intro a; simp [beN]
  | cons c l ih =>
    intro a
    have h0 := ih (256 * a + c.toNat)
    have h1 := ih (256 * 0 + c.toNat)
    simp only [beN, List.foldl_cons, List.length_cons, Nat.pow_succ] at *
    rw [h0, h1, Nat.add_mul, Nat.add_mul, Nat.mul_comm 256 a, Nat.mul_assoc, Nat.mul_comm 256 (256 ^ l.length)]
    omega
theorem beN_lt (l : List UInt8) : beN l < 256 ^ l.length := by
  induction l with
  | nil => simp [beN]
  | cons c l ih =>
    have h := beN_acc l (256 * 0 + c.toNat)
    have := c.toNat_lt
    have e : beN (c :: l) = (256 * 0 + c.toNat) * 256 ^ l.length + beN l := by rw [← h]; simp [beN]
    rw [e, List.length_cons, Nat.pow_succ, Nat.mul_zero, Nat.zero_add]
    have : c.toNat * 256 ^ l.length ≤ 255 * 256 ^ l.length := Nat.mul_le_mul_right _ (by omega)
    omega
theorem beN_take_succ (l : List UInt8) (k : Nat) (h : k < l.length) : beN (l.take (k + 1)) = 256 * beN (l.take k) + (l.getD k 0).toNat := by
  rw [List.take_succ_eq_append_getElem h, beN_snoc]
  simp [h]
def put4 (n : Nat) : List UInt8 := [UInt8.ofNat (n / 16777216), UInt8.ofNat (n / 65536), UInt8.ofNat (n / 256), UInt8.ofNat n]
def put8 (n : Nat) : List UInt8 := put4 (n / 4294967296) ++ put4 n
@[simp] theorem put4_length (n : Nat) : (put4 n).length = 4 := rfl
@[simp] theorem put8_length (n : Nat) : (put8 n).length = 8 := rfl
theorem beN_put4 (n : Nat) : beN (put4 n) = n % 4294967296 := by
  simp only [beN, put4, List.foldl, UInt8.toNat_ofNat']
  omega
theorem put4_mod (n : Nat) : put4 (n % 4294967296) = put4 n := by
  have h : ∀ m k : Nat, m % 256 = k % 256 → UInt8.ofNat m = UInt8.ofNat k := fun m k h => UInt8.toNat.inj (by simpa using h)
  unfold put4
  rw [h (n % 4294967296 / 16777216) (n / 16777216) (by omega), h (n % 4294967296 / 65536) (n / 65536) (by omega), h (n % 4294967296 / 256) (n / 256) (by omega), h (n % 4294967296) n (by omega)]
theorem put4_beN (l : List UInt8) (h : l.length = 4) : put4 (beN l) = l := by
  match l, h with
  | [a, b, c, d], _ =>
    have ha := a.toNat_lt; have hb := b.toNat_lt; have hc := c.toNat_lt; have hd := d.toNat_lt
    have e : beN [a, b, c, d] = 16777216 * a.toNat + 65536 * b.toNat + 256 * c.toNat + d.toNat := by simp only [beN, List.foldl]; omega
    have k : ∀ (m : Nat) (x : UInt8), m % 256 = x.toNat → UInt8.ofNat m = x := fun m x h => UInt8.toNat.inj (by simpa using h)
    rw [put4, e, k _ a (by omega), k _ b (by omega), k _ c (by omega), k _ d (by omega)]
theorem beN_append (l m : List UInt8) : beN (l ++ m) = beN l * 256 ^ m.length + beN m := by
  rw [← beN_acc m (beN l)]
  simp [beN]
theorem beN_put8 (n : Nat) : beN (put8 n) = n % 18446744073709551616 := by
  rw [put8, beN_append, beN_put4, beN_put4, put4_length]
  have : (256 : Nat) ^ 4 = 4294967296 := by decide
  rw [this]; omega
theorem put8_beN (l : List UInt8) (h : l.length = 8) : put8 (beN l) = l := by
  have h1 : (l.take 4).length = 4 := by simp [h]
  have h2 : (l.drop 4).length = 4 := by simp [h]
  have e : l = l.take 4 ++ l.drop 4 := (List.take_append_drop 4 l).symm
  have b1 := beN_lt (l.take 4)
  have b2 := beN_lt (l.drop 4)
  have c : beN l = beN (l.take 4) * 4294967296 + beN (l.drop 4) := by
    conv => lhs; rw [e]
    rw [beN_append, h2]
  have p4 : (256 : Nat) ^ 4 = 4294967296 := by decide
  rw [h1, p4] at b1
  rw [h2, p4] at b2
  rw [put8, c, show (beN (l.take 4) * 4294967296 + beN (l.drop 4)) / 4294967296 = beN (l.take 4) by omega, put4_beN _ h1]
  rw [← put4_mod, show (beN (l.take 4) * 4294967296 + beN (l.drop 4)) % 4294967296 = beN (l.drop 4) by omega, put4_beN _ h2, List.take_append_drop]

/-! ### parsers: a value and how many bytes it had, or an error's number -/
abbrev Ps (α : Type) := List UInt8 → Except Int (α × Nat)
namespace Ps
def pure {α : Type} (a : α) : Ps α := fun _ => .ok (a, 0)
def bind {α β : Type} (p : Ps α) (f : α → Ps β) : Ps β := fun b =>
  match p b with
  | .error e => .error e
  | .ok (a, k) => match f a (b.drop k) with
    | .error e => .error e
    | .ok (x, m) => .ok (x, k + m)
def need (c : Bool) (e : Int) : Ps Unit := fun _ => if c then .ok ((), 0) else .error e
theorem bind_ok {α β : Type} {p : Ps α} {f : α → Ps β} {b : List UInt8} {a : α} {k : Nat} (h : p b = .ok (a, k)) :
    bind p f b = match f a (b.drop k) with | .error e => .error e | .ok (x, m) => .ok (x, k + m) := by simp [bind, h]
theorem bind_ok_ok {α β : Type} {p : Ps α} {f : α → Ps β} {b : List UInt8} {a : α} {k : Nat} {x : β} {m : Nat} (h : p b = .ok (a, k)) (h' : f a (b.drop k) = .ok (x, m)) :
    bind p f b = .ok (x, k + m) := by simp [bind, h, h']
theorem bind_error {α β : Type} {p : Ps α} {f : α → Ps β} {b : List UInt8} {e : Int} (h : p b = .error e) : bind p f b = .error e := by simp [bind, h]
theorem bind_ok_error {α β : Type} {p : Ps α} {f : α → Ps β} {b : List UInt8} {a : α} {k : Nat} {e : Int} (h : p b = .ok (a, k)) (h' : f a (b.drop k) = .error e) :
    bind p f b = .error e := by simp [bind, h, h']
end Ps

def pNum : Ps Nat := fun b => if b.length < 4 then .error 4 else .ok (beN (b.take 4), 4)
def pLong : Ps Nat := fun b => if b.length < 8 then .error 4 else .ok (beN (b.take 8), 8)
def pYes : Ps Bool := fun b => if b.length < 4 then .error 4 else if beN (b.take 4) > 1 then .error 5 else .ok (beN (b.take 4) == 1, 4)
structure Tm where
  sec : Nat
  nano : Nat
  deriving DecidableEq
def pTime : Ps Tm := fun b => if b.length < 8 then .error 4 else if beN (b.take 8) % 4294967296 < 1000000000 then .ok (⟨beN (b.take 8) / 4294967296, beN (b.take 8) % 4294967296⟩, 8) else .error 5
def putYes (b : Bool) : List UInt8 := put4 (if b then 1 else 0)

end Go.Proofs.YtkaapdnjlmceoabDoor

/- The document's Get of what is told of a node. -/
import Derived.Test.YtkaapdnjlmceoabDoorRef10
import Derived.Test.YtkaapdnjlmceoabDoorRDoor
import Derived.Laws.BytesArg
set_option linter.unusedVariables false
set_option linter.unusedSimpArgs false
namespace Go.Proofs.YtkaapdnjlmceoabDoor
open Go.RowKit
theorem f4_take (xs : List UInt8) {m i : Nat} (h : i + 4 ≤ m) : f4 (xs.take m) i = f4 xs i := by
  rw [f4, f4, List.drop_take, List.take_take, show min 4 (m - i) = 4 by omega]
theorem f8_take (xs : List UInt8) {m i : Nat} (h : i + 8 ≤ m) : f8 (xs.take m) i = f8 xs i := by
  rw [f8, f8, List.drop_take, List.take_take, show min 8 (m - i) = 8 by omega]
theorem f4_lt (xs : List UInt8) (i : Nat) : f4 xs i < 4294967296 :=
  Nat.lt_of_lt_of_le (beN_lt _) (Nat.le_trans (Nat.pow_le_pow_right (by decide) (List.length_take_le 4 _)) (by decide))
theorem f8_lt (xs : List UInt8) (i : Nat) : f8 xs i < 18446744073709551616 :=
  Nat.lt_of_lt_of_le (beN_lt _) (Nat.le_trans (Nat.pow_le_pow_right (by decide) (List.length_take_le 8 _)) (by decide))
theorem tm_wf (xs : List UInt8) (i : Nat) : (tm xs i).wf := by
  have := f8_lt xs i
  constructor <;> simp only [tm] <;> omega
theorem atOf_wf (xs : List UInt8) : (atOf xs).wf := by
  refine ⟨fun k => ?_, f8_lt _ _, f8_lt _ _, f8_lt _ _, tm_wf _ _, tm_wf _ _, tm_wf _ _⟩
  match k with
  | 0 => exact f4_lt _ _
  | 1 => exact f4_lt _ _
  | 2 => exact f4_lt _ _
  | 3 => exact f4_lt _ _
  | 4 => exact f4_lt _ _
  | k + 5 => simp [At.head, atOf]
theorem put4_f4 {xs : List UInt8} {i : Nat} (h : i + 4 ≤ xs.length) : put4 (f4 xs i) = (xs.drop i).take 4 := put4_beN _ (by simp; omega)
theorem put8_f8 {xs : List UInt8} {i : Nat} (h : i + 8 ≤ xs.length) : put8 (f8 xs i) = (xs.drop i).take 8 := put8_beN _ (by simp; omega)
theorem putTm_tm {xs : List UInt8} {i : Nat} (h : i + 8 ≤ xs.length) : putTm (tm xs i) = (xs.drop i).take 8 := by
  rw [← put8_f8 h, putTm, tm, put8, put4_mod]
theorem take_cat (xs : List UInt8) (i k : Nat) : xs.take i ++ (xs.drop i).take k = xs.take (i + k) := (List.take_add ..).symm
theorem headB_atOf {xs : List UInt8} (h : 20 ≤ xs.length) : (atOf xs).headB 5 = xs.take 20 := by
  have e : (atOf xs).headB 5 = put4 (f4 xs 0) ++ (put4 (f4 xs 4) ++ (put4 (f4 xs 8) ++ (put4 (f4 xs 12) ++ (put4 (f4 xs 16) ++ [])))) := rfl
  rw [e, List.append_nil, put4_f4 (by omega), put4_f4 (by omega), put4_f4 (by omega), put4_f4 (by omega), put4_f4 (by omega)]
  simp only [← List.append_assoc, List.drop_zero, take_cat]
theorem putAt_atOf {xs : List UInt8} (h : 84 ≤ xs.length) : putAt (atOf xs) = xs.take 84 ↔ f8 xs 36 = 0 ∧ f8 xs 44 = 1 := by
  have e : putAt (atOf xs) = xs.take 36 ++ put8 0 ++ put8 1 ++ ((xs.drop 52).take 8 ++ (xs.drop 60).take 8 ++ (xs.drop 68).take 8 ++ (xs.drop 76).take 8) := by
    rw [putAt, headB_atOf (by omega)]
    simp only [atOf]
    rw [put8_f8 (by omega), put8_f8 (by omega), put8_f8 (by omega), putTm_tm (by omega), putTm_tm (by omega), putTm_tm (by omega), take_cat, take_cat]
    simp only [List.append_assoc]
  have e2 : xs.take 84 = xs.take 36 ++ (xs.drop 36).take 8 ++ (xs.drop 44).take 8 ++ ((xs.drop 52).take 8 ++ (xs.drop 60).take 8 ++ (xs.drop 68).take 8 ++ (xs.drop 76).take 8) := by
    simp only [← List.append_assoc, take_cat]
  rw [e, e2, List.append_left_inj, List.append_assoc, List.append_assoc, List.append_right_inj]
  have l1 : (put8 0).length = ((xs.drop 36).take 8).length := by simp; omega
  constructor
  · intro hh
    obtain ⟨h1, h2⟩ := List.append_inj hh l1
    constructor
    · rw [f8, ← h1, beN_put8]
    · rw [f8, ← h2, beN_put8]
  · rintro ⟨h1, h2⟩
    rw [← put8_f8 (by omega), ← put8_f8 (by omega), h1, h2]
theorem atMay_eq (xs : List UInt8) : atMay xs = ((atOf xs).may && ((f8 xs 36 == 0) && (f8 xs 44 == 1))) := by
  rw [atMay, At.may]
  simp only [atOf]
  ac_rfl
theorem atOf_take {xs : List UInt8} : atOf (xs.take 84) = atOf xs := by
  simp only [atOf, tm]
  rw [f4_take xs (by omega), f4_take xs (by omega), f4_take xs (by omega), f4_take xs (by omega), f4_take xs (by omega), f8_take xs (by omega), f8_take xs (by omega), f8_take xs (by omega), f8_take xs (by omega), f8_take xs (by omega), f8_take xs (by omega)]
theorem conv_bytes {A : Option Addr} {n cap : Nat} {xs : List UInt8} {w : World} (hB : Bs w A n xs) (hp : 0 < n) :
    (convert 31 9 (.slice A n cap)).run Tryd.prog w = .ok (.string ⟨xs.toArray⟩) w := by
  obtain ⟨hx, hn, h⟩ := hB
  obtain ⟨b, off, rfl, hl, hc⟩ := h hp
  have := run_convert_bytes_arg (P := Tryd.prog) w 31 5 Tryd.underlying31 Tryd.underlying5 b off n cap (xs.map fun x => (x.toNat : Int)) (by simpa using hx) (fun i hi => by rw [hc i hi]; simp [List.getD, List.getElem?_eq_getElem (show i < xs.length by omega)]) 9 Tryd.underlying9
  rw [this]
  have e : List.map ((fun n : Int => UInt8.ofNat n.toNat) ∘ fun x : UInt8 => (x.toNat : Int)) xs = xs := by
    conv => rhs; rw [← List.map_id xs]
    exact List.map_congr_left fun x _ => by simp
  simp [strOfNums, e]
theorem f8_split {xs : List UInt8} {i : Nat} (h : i + 8 ≤ xs.length) : f8 xs i = f4 xs i * 4294967296 + f4 xs (i + 4) := by
  have e : (xs.drop i).take 8 = (xs.drop i).take 4 ++ (xs.drop (i + 4)).take 4 := by rw [show 8 = 4 + 4 from rfl, List.take_add, List.drop_drop]
  rw [f8, e, beN_append, show ((xs.drop (i + 4)).take 4).length = 4 by simp; omega]
  rfl
theorem agg_atOf {xs : List UInt8} (h : 84 ≤ xs.length) : Value.agg #[.int .u32 (f4 (xs.take 84) 0), .int .u32 (f4 (xs.take 84) 4), .int .u32 (f4 (xs.take 84) 8), .int .u32 (f4 (xs.take 84) 12), .int .u32 (f4 (xs.take 84) 16), .int .u64 (f8 (xs.take 84) 20), .int .u64 (f8 (xs.take 84) 28), .int .u64 (f8 (xs.take 84) 52), .int .u32 (f4 (xs.take 84) 60), .int .u32 (f4 (xs.take 84) 64), .int .u32 (f4 (xs.take 84) 68), .int .u32 (f4 (xs.take 84) 72), .int .u32 (f4 (xs.take 84) 76), .int .u32 (f4 (xs.take 84) 80)] = eAttrs (atOf xs) := by
  have d : ∀ i, i + 8 ≤ 84 → f4 (xs.take 84) i = f8 xs i / 4294967296 ∧ f4 (xs.take 84) (i + 4) = f8 xs i % 4294967296 := fun i hi => by
    have h1 := f8_split (xs := xs) (i := i) (by omega)
    have h2 := f4_lt xs (i + 4)
    rw [f4_take xs (by omega), f4_take xs (by omega)]
    omega
  have d1 := d 60 (by omega); have d2 := d 68 (by omega); have d3 := d 76 (by omega)
  rw [d1.1, d1.2, d2.1, d2.2, d3.1, d3.2, f4_take xs (by omega), f4_take xs (by omega), f4_take xs (by omega), f4_take xs (by omega), f4_take xs (by omega), f8_take xs (by omega), f8_take xs (by omega), f8_take xs (by omega)]
  rfl
theorem putAt_pos (a : At) : 0 < (putAt a).length := by simp only [putAt, List.length_append, put8_length]; omega
theorem bytes_toList (l : List UInt8) : (⟨l.toArray⟩ : ByteArray).toList = l := ByteArray.toList_mk l
theorem RMay_of (a : At) (x : Value) (hx : x = eAttrs a) (w : World) : Calls Tryd.prog 13 #[x] w fun e w' => e = .returned (.bool a.may) ∧ Below w.heap.size w w' := hx ▸ RMay a w
theorem RBytes_of (a : At) (x : Value) (hx : x = eAttrs a) (ha : a.wf) (w : World) : Calls Tryd.prog 18 #[x] w fun e w' => ∃ v, e = .returned v ∧ OwnB w' w.heap.size v (putAt a) ∧ Below w.heap.size w w' := hx ▸ RBytes a ha w
section
variable {A : Option Addr} {n cap k : Nat} {xs : List UInt8} {w : World}
end
end Go.Proofs.YtkaapdnjlmceoabDoor

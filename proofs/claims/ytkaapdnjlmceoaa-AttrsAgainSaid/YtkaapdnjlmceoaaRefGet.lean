/- The document's Get of what is told of a node. -/
import Derived.Test.YtkaapdnjlmceoaaRef10
import Derived.Test.YtkaapdnjlmceoaaRDoor
import Derived.Laws.BytesArg
set_option linter.unusedVariables false
set_option linter.unusedSimpArgs false
namespace Go.Proofs.Ytkaapdnjlmceoaa
open Go.RowKit
theorem f4_take (xs : List UInt8) {m i : Nat} (h : i + 4 ≤ m) : f4 (xs.take m) i = f4 xs i := by
  rw [f4, f4, List.drop_take, List.take_take, show min 4 (m - i) = 4 by omega]
theorem f8_take (xs : List UInt8) {m i : Nat} (h : i + 8 ≤ m) : f8 (xs.take m) i = f8 xs i := by
  rw [f8, f8, List.drop_take, List.take_take, show min 8 (m - i) = 8 by omega]
theorem f4_lt (xs : List UInt8) (i : Nat) : f4 xs i < 4294967296 :=
  Nat.lt_of_lt_of_le (beN_lt _) (Nat.le_trans (Nat.pow_le_pow_right (by decide) (List.length_take_le 4 _)) (by decide))
theorem f8_lt (xs : List UInt8) (i : Nat) : f8 xs i < 18446744073709551616 :=
  Nat.lt_of_lt_of_le (beN_lt _) (Nat.le_trans (Nat.pow_le_pow_right (by decide) (List.length_take_le 8 _)) (by decide))
theorem tm_wf (xs : List UInt8) (i : Nat) : (tm xs i).wf := by
  have := f8_lt xs i
  constructor <;> simp only [tm] <;> omega
theorem atOf_wf (xs : List UInt8) : (atOf xs).wf := by
  refine ⟨fun k => ?_, f8_lt _ _, f8_lt _ _, f8_lt _ _, tm_wf _ _, tm_wf _ _, tm_wf _ _⟩
  match k with
  | 0 => exact f4_lt _ _
  | 1 => exact f4_lt _ _
  | 2 => exact f4_lt _ _
  | 3 => exact f4_lt _ _
  | 4 => exact f4_lt _ _
  | k + 5 => simp [At.head, atOf]
theorem put4_f4 {xs : List UInt8} {i : Nat} (h : i + 4 ≤ xs.length) : put4 (f4 xs i) = (xs.drop i).take 4 := put4_beN _ (by simp; omega)
theorem put8_f8 {xs : List UInt8} {i : Nat} (h : i + 8 ≤ xs.length) : put8 (f8 xs i) = (xs.drop i).take 8 := put8_beN _ (by simp; omega)
theorem putTm_tm {xs : List UInt8} {i : Nat} (h : i + 8 ≤ xs.length) : putTm (tm xs i) = (xs.drop i).take 8 := by
  rw [← put8_f8 h, putTm, tm, put8, put4_mod]
theorem take_cat (xs : List UInt8) (i k : Nat) : xs.take i ++ (xs.drop i).take k = xs.take (i + k) := (List.take_add ..).symm
theorem headB_atOf {xs : List UInt8} (h : 20 ≤ xs.length) : (atOf xs).headB 5 = xs.take 20 := by
  have e : (atOf xs).headB 5 = put4 (f4 xs 0) ++ (put4 (f4 xs 4) ++ (put4 (f4 xs 8) ++ (put4 (f4 xs 12) ++ (put4 (f4 xs 16) ++ [])))) := rfl
  rw [e, List.append_nil, put4_f4 (by omega), put4_f4 (by omega), put4_f4 (by omega), put4_f4 (by omega), put4_f4 (by omega)]
  simp only [← List.append_assoc, List.drop_zero, take_cat]
theorem putAt_atOf {xs : List UInt8} (h : 84 ≤ xs.length) : putAt (atOf xs) = xs.take 84 ↔ f8 xs 36 = 0 ∧ f8 xs 44 = 1 := by
  have e : putAt (atOf xs) = xs.take 36 ++ put8 0 ++ put8 1 ++ ((xs.drop 52).take 8 ++ (xs.drop 60).take 8 ++ (xs.drop 68).take 8 ++ (xs.drop 76).take 8) := by
    rw [putAt, headB_atOf (by omega)]
    simp only [atOf]
    rw [put8_f8 (by omega), put8_f8 (by omega), put8_f8 (by omega), putTm_tm (by omega), putTm_tm (by omega), putTm_tm (by omega), take_cat, take_cat]
    simp only [List.append_assoc]
  have e2 : xs.take 84 = xs.take 36 ++ (xs.drop 36).take 8 ++ (xs.drop 44).take 8 ++ ((xs.drop 52).take 8 ++ (xs.drop 60).take 8 ++ (xs.drop 68).take 8 ++ (xs.drop 76).take 8) := by
    simp only [← List.append_assoc, take_cat]
  rw [e, e2, List.append_left_inj, List.append_assoc, List.append_assoc, List.append_right_inj]
  have l1 : (put8 0).length = ((xs.drop 36).take 8).length := by simp; omega
  constructor
  · intro hh
    obtain ⟨h1, h2⟩ := List.append_inj hh l1
    constructor
    · rw [f8, ← h1, beN_put8]
    · rw [f8, ← h2, beN_put8]
  · rintro ⟨h1, h2⟩
    rw [← put8_f8 (by omega), ← put8_f8 (by omega), h1, h2]
theorem atMay_eq (xs : List UInt8) : atMay xs = ((atOf xs).may && ((f8 xs 36 == 0) && (f8 xs 44 == 1))) := by
  rw [atMay, At.may]
  simp only [atOf]
  ac_rfl
theorem atOf_take {xs : List UInt8} : atOf (xs.take 84) = atOf xs := by
  simp only [atOf, tm]
  rw [f4_take xs (by omega), f4_take xs (by omega), f4_take xs (by omega), f4_take xs (by omega), f4_take xs (by omega), f8_take xs (by omega), f8_take xs (by omega), f8_take xs (by omega), f8_take xs (by omega), f8_take xs (by omega), f8_take xs (by omega)]
theorem conv_bytes {A : Option Addr} {n cap : Nat} {xs : List UInt8} {w : World} (hB : Bs w A n xs) (hp : 0 < n) :
    (convert 22 9 (.slice A n cap)).run Try.prog w = .ok (.string ⟨xs.toArray⟩) w := by
  obtain ⟨hx, hn, h⟩ := hB
  obtain ⟨b, off, rfl, hl, hc⟩ := h hp
  have := run_convert_bytes_arg (P := Try.prog) w 22 5 Try.underlying22 Try.underlying5 b off n cap (xs.map fun x => (x.toNat : Int)) (by simpa using hx) (fun i hi => by rw [hc i hi]; simp [List.getD, List.getElem?_eq_getElem (show i < xs.length by omega)]) 9 Try.underlying9
  rw [this]
  have e : List.map ((fun n : Int => UInt8.ofNat n.toNat) ∘ fun x : UInt8 => (x.toNat : Int)) xs = xs := by
    conv => rhs; rw [← List.map_id xs]
    exact List.map_congr_left fun x _ => by simp
  simp [strOfNums, e]
theorem f8_split {xs : List UInt8} {i : Nat} (h : i + 8 ≤ xs.length) : f8 xs i = f4 xs i * 4294967296 + f4 xs (i + 4) := by
  have e : (xs.drop i).take 8 = (xs.drop i).take 4 ++ (xs.drop (i + 4)).take 4 := by rw [show 8 = 4 + 4 from rfl, List.take_add, List.drop_drop]
  rw [f8, e, beN_append, show ((xs.drop (i + 4)).take 4).length = 4 by simp; omega]
  rfl
theorem agg_atOf {xs : List UInt8} (h : 84 ≤ xs.length) : Value.agg #[.int .u32 (f4 (xs.take 84) 0), .int .u32 (f4 (xs.take 84) 4), .int .u32 (f4 (xs.take 84) 8), .int .u32 (f4 (xs.take 84) 12), .int .u32 (f4 (xs.take 84) 16), .int .u64 (f8 (xs.take 84) 20), .int .u64 (f8 (xs.take 84) 28), .int .u64 (f8 (xs.take 84) 52), .int .u32 (f4 (xs.take 84) 60), .int .u32 (f4 (xs.take 84) 64), .int .u32 (f4 (xs.take 84) 68), .int .u32 (f4 (xs.take 84) 72), .int .u32 (f4 (xs.take 84) 76), .int .u32 (f4 (xs.take 84) 80)] = eAttrs (atOf xs) := by
  have d : ∀ i, i + 8 ≤ 84 → f4 (xs.take 84) i = f8 xs i / 4294967296 ∧ f4 (xs.take 84) (i + 4) = f8 xs i % 4294967296 := fun i hi => by
    have h1 := f8_split (xs := xs) (i := i) (by omega)
    have h2 := f4_lt xs (i + 4)
    rw [f4_take xs (by omega), f4_take xs (by omega)]
    omega
  have d1 := d 60 (by omega); have d2 := d 68 (by omega); have d3 := d 76 (by omega)
  rw [d1.1, d1.2, d2.1, d2.2, d3.1, d3.2, f4_take xs (by omega), f4_take xs (by omega), f4_take xs (by omega), f4_take xs (by omega), f4_take xs (by omega), f8_take xs (by omega), f8_take xs (by omega), f8_take xs (by omega)]
  rfl
theorem putAt_pos (a : At) : 0 < (putAt a).length := by simp only [putAt, List.length_append, put8_length]; omega
theorem bytes_toList (l : List UInt8) : (⟨l.toArray⟩ : ByteArray).toList = l := ByteArray.toList_mk l
theorem RMay_of (a : At) (x : Value) (hx : x = eAttrs a) (w : World) : Calls Try.prog 33 #[x] w fun e w' => e = .returned (.bool a.may) ∧ Below w.heap.size w w' := hx ▸ RMay a w
theorem RBytes_of (a : At) (x : Value) (hx : x = eAttrs a) (ha : a.wf) (w : World) : Calls Try.prog 34 #[x] w fun e w' => ∃ v, e = .returned v ∧ OwnB w' w.heap.size v (putAt a) ∧ Below w.heap.size w w' := hx ▸ RBytes a ha w
theorem RNumber_of (i : Int) (k : Nat) (hi : i = k) {A : Option Addr} {n cap : Nat} {xs : List UInt8} {w : World} (hB : Bs w A n xs) (hc : n ≤ cap) (hk : k + 4 ≤ n) :
    Calls Try.prog 31 #[.slice A n cap, .int .i64 i] w fun e w' => e = .returned (.int .u32 (f4 xs k)) ∧ w = w' := hi ▸ RNumber hB hc hk
theorem RLong_of (i : Int) (k : Nat) (hi : i = k) {A : Option Addr} {n cap : Nat} {xs : List UInt8} {w : World} (hB : Bs w A n xs) (hc : n ≤ cap) (hk : k + 8 ≤ n) :
    Calls Try.prog 32 #[.slice A n cap, .int .i64 i] w fun e w' => e = .returned (.int .u64 (f8 xs k)) ∧ w = w' := hi ▸ RLong hB hc hk
section
variable {A : Option Addr} {n cap k : Nat} {xs : List UInt8} {w : World}
set_option maxRecDepth 100000 in
set_option maxHeartbeats 1000000 in
theorem RGet_few (hB : Bs w A n xs) (hs : n < 84) :
    Calls Try.prog 16 #[.slice A n cap] w (GetPost pAttrs eAttrs At.zero n xs w) := by
  have hn := hB.2.1
  have hl : Hid (pAttrs xs = .error 4) := pAttrs_short (by rw [hB.1]; omega)
  clear hB
  go_enter Try.func16, Try.ntmps16
  go_wp2
  refine bodyPost_ret (v := .tuple #[.agg At.zero.cells, .int .i64 0, .int .i64 4]) (by simp (maxDischargeDepth := 8) [results, Try.results16, go_sem, At.cells, At.zero, *]) rfl ?_
  exact ⟨by (with_reducible (repeat' (first | exact Below.refl _ _ | assumption | apply bl_alloc | apply bl_drewN | apply bl_drew | refine bl_set ?_ ?_ _))) <;> (first | done | (simp; done) | (simp; omega) | omega), .inr ⟨4, hl.out, by simp [eAttrs]⟩⟩
set_option maxRecDepth 100000 in
set_option maxHeartbeats 1000000 in
theorem RGet_many (hB : Bs w A n xs) (hc : n ≤ cap) (hs : 84 ≤ n) :
    Calls Try.prog 16 #[.slice A n cap] w (GetPost pAttrs eAttrs At.zero n xs w) := by
  have hn := hB.2.1
  have HB := Lib.hid hB
  have HB84 := Lib.hid (hB.take 84 hs)
  have hc84 : 84 ≤ cap := by omega
  clear hB
  go_enter Try.func16, Try.ntmps16
  go_wp2_with (first
    | (go_at_call_of 31 (Value.int .i64 (0 : Int)); refine Calls.mono (RNumber_of 0 0 rfl (HB84.out.below (by (with_reducible (repeat' (first | exact Below.refl _ _ | assumption | apply bl_alloc | apply bl_drewN | apply bl_drew | refine bl_set ?_ ?_ _))) <;> (first | done | (simp; done) | (simp; omega) | omega))) hc84 (by omega)) ?_; rintro e w1 ⟨rfl, rfl⟩)
    | (go_at_call_of 31 (Value.int .i64 (4 : Int)); refine Calls.mono (RNumber_of 4 4 rfl (HB84.out.below (by (with_reducible (repeat' (first | exact Below.refl _ _ | assumption | apply bl_alloc | apply bl_drewN | apply bl_drew | refine bl_set ?_ ?_ _))) <;> (first | done | (simp; done) | (simp; omega) | omega))) hc84 (by omega)) ?_; rintro e w1 ⟨rfl, rfl⟩)
    | (go_at_call_of 31 (Value.int .i64 (8 : Int)); refine Calls.mono (RNumber_of 8 8 rfl (HB84.out.below (by (with_reducible (repeat' (first | exact Below.refl _ _ | assumption | apply bl_alloc | apply bl_drewN | apply bl_drew | refine bl_set ?_ ?_ _))) <;> (first | done | (simp; done) | (simp; omega) | omega))) hc84 (by omega)) ?_; rintro e w1 ⟨rfl, rfl⟩)
    | (go_at_call_of 31 (Value.int .i64 (12 : Int)); refine Calls.mono (RNumber_of 12 12 rfl (HB84.out.below (by (with_reducible (repeat' (first | exact Below.refl _ _ | assumption | apply bl_alloc | apply bl_drewN | apply bl_drew | refine bl_set ?_ ?_ _))) <;> (first | done | (simp; done) | (simp; omega) | omega))) hc84 (by omega)) ?_; rintro e w1 ⟨rfl, rfl⟩)
    | (go_at_call_of 31 (Value.int .i64 (16 : Int)); refine Calls.mono (RNumber_of 16 16 rfl (HB84.out.below (by (with_reducible (repeat' (first | exact Below.refl _ _ | assumption | apply bl_alloc | apply bl_drewN | apply bl_drew | refine bl_set ?_ ?_ _))) <;> (first | done | (simp; done) | (simp; omega) | omega))) hc84 (by omega)) ?_; rintro e w1 ⟨rfl, rfl⟩)
    | (go_at_call_of 31 (Value.int .i64 (60 : Int)); refine Calls.mono (RNumber_of 60 60 rfl (HB84.out.below (by (with_reducible (repeat' (first | exact Below.refl _ _ | assumption | apply bl_alloc | apply bl_drewN | apply bl_drew | refine bl_set ?_ ?_ _))) <;> (first | done | (simp; done) | (simp; omega) | omega))) hc84 (by omega)) ?_; rintro e w1 ⟨rfl, rfl⟩)
    | (go_at_call_of 31 (Value.int .i64 (64 : Int)); refine Calls.mono (RNumber_of 64 64 rfl (HB84.out.below (by (with_reducible (repeat' (first | exact Below.refl _ _ | assumption | apply bl_alloc | apply bl_drewN | apply bl_drew | refine bl_set ?_ ?_ _))) <;> (first | done | (simp; done) | (simp; omega) | omega))) hc84 (by omega)) ?_; rintro e w1 ⟨rfl, rfl⟩)
    | (go_at_call_of 31 (Value.int .i64 (68 : Int)); refine Calls.mono (RNumber_of 68 68 rfl (HB84.out.below (by (with_reducible (repeat' (first | exact Below.refl _ _ | assumption | apply bl_alloc | apply bl_drewN | apply bl_drew | refine bl_set ?_ ?_ _))) <;> (first | done | (simp; done) | (simp; omega) | omega))) hc84 (by omega)) ?_; rintro e w1 ⟨rfl, rfl⟩)
    | (go_at_call_of 31 (Value.int .i64 (72 : Int)); refine Calls.mono (RNumber_of 72 72 rfl (HB84.out.below (by (with_reducible (repeat' (first | exact Below.refl _ _ | assumption | apply bl_alloc | apply bl_drewN | apply bl_drew | refine bl_set ?_ ?_ _))) <;> (first | done | (simp; done) | (simp; omega) | omega))) hc84 (by omega)) ?_; rintro e w1 ⟨rfl, rfl⟩)
    | (go_at_call_of 31 (Value.int .i64 (76 : Int)); refine Calls.mono (RNumber_of 76 76 rfl (HB84.out.below (by (with_reducible (repeat' (first | exact Below.refl _ _ | assumption | apply bl_alloc | apply bl_drewN | apply bl_drew | refine bl_set ?_ ?_ _))) <;> (first | done | (simp; done) | (simp; omega) | omega))) hc84 (by omega)) ?_; rintro e w1 ⟨rfl, rfl⟩)
    | (go_at_call_of 31 (Value.int .i64 (80 : Int)); refine Calls.mono (RNumber_of 80 80 rfl (HB84.out.below (by (with_reducible (repeat' (first | exact Below.refl _ _ | assumption | apply bl_alloc | apply bl_drewN | apply bl_drew | refine bl_set ?_ ?_ _))) <;> (first | done | (simp; done) | (simp; omega) | omega))) hc84 (by omega)) ?_; rintro e w1 ⟨rfl, rfl⟩)
    | (go_at_call_of 32 (Value.int .i64 (20 : Int)); refine Calls.mono (RLong_of 20 20 rfl (HB84.out.below (by (with_reducible (repeat' (first | exact Below.refl _ _ | assumption | apply bl_alloc | apply bl_drewN | apply bl_drew | refine bl_set ?_ ?_ _))) <;> (first | done | (simp; done) | (simp; omega) | omega))) hc84 (by omega)) ?_; rintro e w1 ⟨rfl, rfl⟩)
    | (go_at_call_of 32 (Value.int .i64 (28 : Int)); refine Calls.mono (RLong_of 28 28 rfl (HB84.out.below (by (with_reducible (repeat' (first | exact Below.refl _ _ | assumption | apply bl_alloc | apply bl_drewN | apply bl_drew | refine bl_set ?_ ?_ _))) <;> (first | done | (simp; done) | (simp; omega) | omega))) hc84 (by omega)) ?_; rintro e w1 ⟨rfl, rfl⟩)
    | (go_at_call_of 32 (Value.int .i64 (52 : Int)); refine Calls.mono (RLong_of 52 52 rfl (HB84.out.below (by (with_reducible (repeat' (first | exact Below.refl _ _ | assumption | apply bl_alloc | apply bl_drewN | apply bl_drew | refine bl_set ?_ ?_ _))) <;> (first | done | (simp; done) | (simp; omega) | omega))) hc84 (by omega)) ?_; rintro e w1 ⟨rfl, rfl⟩))
  have hx := agg_atOf (xs := xs) (by rw [HB.out.1]; exact hs)
  have HX := Lib.hid hx; clear hx
  rcases Bool.eq_false_or_eq_true (atOf xs).may with hm | hm
  · obtain ⟨c, hcb, hcq⟩ : ∃ c : Bool, ((!((⟨(putAt (atOf xs)).toArray⟩ : ByteArray).toList == (⟨(xs.take 84).toArray⟩ : ByteArray).toList)) = c) ∧ (c = true ↔ ¬ putAt (atOf xs) = xs.take 84) := ⟨_, rfl, by rw [bytes_toList, bytes_toList]; simp⟩
    have HQ := Lib.hid hcq; have HCB := Lib.hid hcb; clear hcq hcb
    have hcv : ∀ wx, Below w.heap.size w wx → (convert 22 9 (.slice A 84 cap)).run Try.prog wx = .ok (.string ⟨(xs.take 84).toArray⟩) wx := fun wx hb => conv_bytes (HB84.out.below hb) (by decide)
    go_cut [57] (fun s57 wx => s57 = .bool c ∧ (∀ o, wx.cell? ⟨w.heap.size, o, none⟩ = At.zero.cells.toList[o]?) ∧ (∀ o, wx.frozen? ⟨w.heap.size, o, none⟩ = false) ∧ (wx.cell? ⟨w.heap.size + 1, 0, none⟩ = some (.int .u32 (f4 (xs.take 84) 0)) ∧ wx.cell? ⟨w.heap.size + 1, 1, none⟩ = some (.int .u32 (f4 (xs.take 84) 4)) ∧ wx.cell? ⟨w.heap.size + 1, 2, none⟩ = some (.int .u32 (f4 (xs.take 84) 8)) ∧ wx.cell? ⟨w.heap.size + 1, 3, none⟩ = some (.int .u32 (f4 (xs.take 84) 12)) ∧ wx.cell? ⟨w.heap.size + 1, 4, none⟩ = some (.int .u32 (f4 (xs.take 84) 16)) ∧ wx.cell? ⟨w.heap.size + 1, 5, none⟩ = some (.int .u64 (f8 (xs.take 84) 20)) ∧ wx.cell? ⟨w.heap.size + 1, 6, none⟩ = some (.int .u64 (f8 (xs.take 84) 28)) ∧ wx.cell? ⟨w.heap.size + 1, 7, none⟩ = some (.int .u64 (f8 (xs.take 84) 52)) ∧ wx.cell? ⟨w.heap.size + 1, 8, none⟩ = some (.int .u32 (f4 (xs.take 84) 60)) ∧ wx.cell? ⟨w.heap.size + 1, 9, none⟩ = some (.int .u32 (f4 (xs.take 84) 64)) ∧ wx.cell? ⟨w.heap.size + 1, 10, none⟩ = some (.int .u32 (f4 (xs.take 84) 68)) ∧ wx.cell? ⟨w.heap.size + 1, 11, none⟩ = some (.int .u32 (f4 (xs.take 84) 72)) ∧ wx.cell? ⟨w.heap.size + 1, 12, none⟩ = some (.int .u32 (f4 (xs.take 84) 76)) ∧ wx.cell? ⟨w.heap.size + 1, 13, none⟩ = some (.int .u32 (f4 (xs.take 84) 80))) ∧ Below w.heap.size w wx)
    case first =>
      first | (go_region_with (first
        | (go_at_call 33; refine Calls.mono (RMay_of (atOf xs) _ HX.out _) ?_; rw [hm]; rintro e w1 ⟨rfl, b1⟩; (obtain ⟨hcx, hfx⟩ := bcell b1); (have hz1 := b1.size); simp at hz1; (have hz3 : w.heap.size < w1.heap.size := (by omega)); (have hz2 : w.heap.size + 1 < w1.heap.size := (by omega)); (have hB1 : Below w.heap.size w w1 := bl_then (by (with_reducible (repeat' (first | exact Below.refl _ _ | assumption | apply bl_alloc | apply bl_drewN | apply bl_drew | refine bl_set ?_ ?_ _))) <;> (first | done | (simp; done) | (simp; omega) | omega)) b1); (have hr0 : ∀ o, w1.cell? ⟨w.heap.size, o, none⟩ = At.zero.cells.toList[o]? := fun o => (hcx _ o (by simp; omega)).trans (by simp [go_sem, At.cells, At.zero])); (have hr1 : ∀ o, w1.frozen? ⟨w.heap.size, o, none⟩ = false := fun o => (hfx _ o (by simp; omega)).trans (by simp [go_sem])); (have hA1 : (w1.cell? ⟨w.heap.size + 1, 0, none⟩ = some (.int .u32 (f4 (xs.take 84) 0)) ∧ w1.cell? ⟨w.heap.size + 1, 1, none⟩ = some (.int .u32 (f4 (xs.take 84) 4)) ∧ w1.cell? ⟨w.heap.size + 1, 2, none⟩ = some (.int .u32 (f4 (xs.take 84) 8)) ∧ w1.cell? ⟨w.heap.size + 1, 3, none⟩ = some (.int .u32 (f4 (xs.take 84) 12)) ∧ w1.cell? ⟨w.heap.size + 1, 4, none⟩ = some (.int .u32 (f4 (xs.take 84) 16)) ∧ w1.cell? ⟨w.heap.size + 1, 5, none⟩ = some (.int .u64 (f8 (xs.take 84) 20)) ∧ w1.cell? ⟨w.heap.size + 1, 6, none⟩ = some (.int .u64 (f8 (xs.take 84) 28)) ∧ w1.cell? ⟨w.heap.size + 1, 7, none⟩ = some (.int .u64 (f8 (xs.take 84) 52)) ∧ w1.cell? ⟨w.heap.size + 1, 8, none⟩ = some (.int .u32 (f4 (xs.take 84) 60)) ∧ w1.cell? ⟨w.heap.size + 1, 9, none⟩ = some (.int .u32 (f4 (xs.take 84) 64)) ∧ w1.cell? ⟨w.heap.size + 1, 10, none⟩ = some (.int .u32 (f4 (xs.take 84) 68)) ∧ w1.cell? ⟨w.heap.size + 1, 11, none⟩ = some (.int .u32 (f4 (xs.take 84) 72)) ∧ w1.cell? ⟨w.heap.size + 1, 12, none⟩ = some (.int .u32 (f4 (xs.take 84) 76)) ∧ w1.cell? ⟨w.heap.size + 1, 13, none⟩ = some (.int .u32 (f4 (xs.take 84) 80))) := by refine ⟨?_, ?_, ?_, ?_, ?_, ?_, ?_, ?_, ?_, ?_, ?_, ?_, ?_, ?_⟩ <;> exact (hcx _ _ (by simp)).trans (by simp [go_sem])))
        | (go_at_call 34; refine Calls.mono (RBytes_of (atOf xs) _ HX.out (atOf_wf xs) _) ?_; rintro e w2 ⟨v2, rfl, o2, b2⟩; (have hB2 := bl_then hB1 b2); (obtain ⟨A2, c2, rfl, hc2, hm2, hB2'⟩ := o2.reads); (have hcv2 := conv_bytes (cap := c2) hB2' (putAt_pos _)); (have hs0 : ∀ o, w2.cell? ⟨w.heap.size, o, none⟩ = At.zero.cells.toList[o]? := keepA b2 hz3 hr0); (have hs1 : ∀ o, w2.frozen? ⟨w.heap.size, o, none⟩ = false := fun o => (b2.frozen (p := ⟨w.heap.size, o, none⟩) hz3).trans (hr1 o)); (have hA2 : (w2.cell? ⟨w.heap.size + 1, 0, none⟩ = some (.int .u32 (f4 (xs.take 84) 0)) ∧ w2.cell? ⟨w.heap.size + 1, 1, none⟩ = some (.int .u32 (f4 (xs.take 84) 4)) ∧ w2.cell? ⟨w.heap.size + 1, 2, none⟩ = some (.int .u32 (f4 (xs.take 84) 8)) ∧ w2.cell? ⟨w.heap.size + 1, 3, none⟩ = some (.int .u32 (f4 (xs.take 84) 12)) ∧ w2.cell? ⟨w.heap.size + 1, 4, none⟩ = some (.int .u32 (f4 (xs.take 84) 16)) ∧ w2.cell? ⟨w.heap.size + 1, 5, none⟩ = some (.int .u64 (f8 (xs.take 84) 20)) ∧ w2.cell? ⟨w.heap.size + 1, 6, none⟩ = some (.int .u64 (f8 (xs.take 84) 28)) ∧ w2.cell? ⟨w.heap.size + 1, 7, none⟩ = some (.int .u64 (f8 (xs.take 84) 52)) ∧ w2.cell? ⟨w.heap.size + 1, 8, none⟩ = some (.int .u32 (f4 (xs.take 84) 60)) ∧ w2.cell? ⟨w.heap.size + 1, 9, none⟩ = some (.int .u32 (f4 (xs.take 84) 64)) ∧ w2.cell? ⟨w.heap.size + 1, 10, none⟩ = some (.int .u32 (f4 (xs.take 84) 68)) ∧ w2.cell? ⟨w.heap.size + 1, 11, none⟩ = some (.int .u32 (f4 (xs.take 84) 72)) ∧ w2.cell? ⟨w.heap.size + 1, 12, none⟩ = some (.int .u32 (f4 (xs.take 84) 76)) ∧ w2.cell? ⟨w.heap.size + 1, 13, none⟩ = some (.int .u32 (f4 (xs.take 84) 80))) := by refine ⟨?_, ?_, ?_, ?_, ?_, ?_, ?_, ?_, ?_, ?_, ?_, ?_, ?_, ?_⟩ <;> (refine (b2.cell (p := ⟨_, _, none⟩) hz2).trans ?_; simp only [hA1]))))) | fail "no way"
      all_goals (try go_wp2_with fail)
      all_goals go_meet
      all_goals exact ⟨by rw [← HCB.out]; first | rfl | simp, hs0, hs1, hA2, hB2⟩
    case rest =>
      obtain ⟨rfl, hcx, hfx, hA, hb⟩ := hcut
      simp only [At.cells, At.zero] at hcx
      have HX' := HX; clear HX
      cases c
      · have hq : putAt (atOf xs) = xs.take 84 := by have h := HQ.out; simpa using h
        have HQ' := Lib.hid hq; clear hq
        go_wp2
        rw [HX'.out]
        trace_state
        refine bodyPost_ret (v := .tuple #[eAttrs (atOf xs), .int .i64 84, .int .i64 0]) (by rw [← HX'.out]; simp (maxDischargeDepth := 8) [results, Try.results16, go_sem, *]) rfl ?_
        refine ⟨by (with_reducible (repeat' (first | exact Below.refl _ _ | assumption | apply bl_alloc | apply bl_drewN | apply bl_drew | refine bl_set ?_ ?_ _))) <;> (first | done | (simp; done) | (simp; omega) | omega), .inl ⟨atOf xs, 84, pAttrs_ok (by rw [HB.out.1]; exact hs) ?_, hs, rfl⟩⟩
        rw [atMay_eq, hm]
        have h2 := (putAt_atOf (by rw [HB.out.1]; exact hs)).1 HQ'.out
        simp [h2]
      · have hq : ¬ putAt (atOf xs) = xs.take 84 := by have h := HQ.out; simpa using h
        have HQ' := Lib.hid hq; clear hq
        go_wp2
        refine bodyPost_ret (v := .tuple #[.agg At.zero.cells, .int .i64 0, .int .i64 5]) (by simp (maxDischargeDepth := 8) [results, Try.results16, go_sem, At.cells, At.zero, *]) rfl ?_
        refine ⟨by (with_reducible (repeat' (first | exact Below.refl _ _ | assumption | apply bl_alloc | apply bl_drewN | apply bl_drew | refine bl_set ?_ ?_ _))) <;> (first | done | (simp; done) | (simp; omega) | omega), .inr ⟨5, pAttrs_bad (by rw [HB.out.1]; exact hs) ?_, by simp [eAttrs]⟩⟩
        rw [atMay_eq, hm]
        have h2 := fun h => HQ'.out ((putAt_atOf (by rw [HB.out.1]; exact hs)).2 h)
        rcases Nat.decEq (f8 xs 36) 0 with h | h
        · simp [h]
        · simp [h]; exact fun h3 => h2 ⟨h, h3⟩
  · go_cut [57] (fun s57 wx => s57 = .bool true ∧ (∀ o, wx.cell? ⟨w.heap.size, o, none⟩ = At.zero.cells.toList[o]?) ∧ (∀ o, wx.frozen? ⟨w.heap.size, o, none⟩ = false) ∧ Below w.heap.size w wx)
    case first =>
      first | (go_region_with (first | (go_at_call 33; refine Calls.mono (RMay_of (atOf xs) _ HX.out _) ?_; rw [hm]; rintro e w1 ⟨rfl, b1⟩; (obtain ⟨hcx, hfx⟩ := bcell b1); (have hz1 := b1.size); simp at hz1; (have hz3 : w.heap.size < w1.heap.size := (by omega)); (have hz2 : w.heap.size + 1 < w1.heap.size := (by omega)); (have hB1 : Below w.heap.size w w1 := bl_then (by (with_reducible (repeat' (first | exact Below.refl _ _ | assumption | apply bl_alloc | apply bl_drewN | apply bl_drew | refine bl_set ?_ ?_ _))) <;> (first | done | (simp; done) | (simp; omega) | omega)) b1); (have hr0 : ∀ o, w1.cell? ⟨w.heap.size, o, none⟩ = At.zero.cells.toList[o]? := fun o => (hcx _ o (by simp; omega)).trans (by simp [go_sem, At.cells, At.zero])); (have hr1 : ∀ o, w1.frozen? ⟨w.heap.size, o, none⟩ = false := fun o => (hfx _ o (by simp; omega)).trans (by simp [go_sem]))))) | fail "no way"
      all_goals (try go_wp2_with fail)
      all_goals go_meet
      all_goals exact ⟨rfl, hr0, hr1, by (with_reducible (repeat' (first | exact Below.refl _ _ | assumption | apply bl_alloc | apply bl_drewN | apply bl_drew | refine bl_set ?_ ?_ _))) <;> (first | done | (simp; done) | (simp; omega) | omega)⟩
    case rest =>
      obtain ⟨rfl, hcx, hfx, hb⟩ := hcut
      simp only [At.cells, At.zero] at hcx
      go_wp2
      refine bodyPost_ret (v := .tuple #[.agg At.zero.cells, .int .i64 0, .int .i64 5]) (by simp (maxDischargeDepth := 8) [results, Try.results16, go_sem, At.cells, At.zero, *]) rfl ?_
      refine ⟨by (with_reducible (repeat' (first | exact Below.refl _ _ | assumption | apply bl_alloc | apply bl_drewN | apply bl_drew | refine bl_set ?_ ?_ _))) <;> (first | done | (simp; done) | (simp; omega) | omega), .inr ⟨5, pAttrs_bad (by rw [HB.out.1]; exact hs) (by rw [atMay_eq, hm]; rfl), by simp [eAttrs]⟩⟩
theorem RGet_any (hB : Bs w A n xs) (hc : n ≤ cap) :
    Calls Try.prog 16 #[.slice A n cap] w (GetPost pAttrs eAttrs At.zero n xs w) := by
  rcases Nat.lt_or_ge n 84 with h | h
  · exact RGet_few hB h
  · exact RGet_many hB hc h
end
end Go.Proofs.Ytkaapdnjlmceoaa

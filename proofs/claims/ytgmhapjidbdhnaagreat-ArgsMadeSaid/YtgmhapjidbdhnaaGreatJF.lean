/- The document's Reader: each part as one step, whatever its error is. -/
import Derived.OpenShut
import Derived.Test.YtgmhapjidbdhnaaGreatJA
import Derived.Test.YtgmhapjidbdhnaaGreatJE
import Derived.Test.YtgmhapjidbdhnaaGreatJB
import Derived.Test.YtgmhapjidbdhnaaGreatJD
import Derived.Laws.BytesArg
set_option linter.unusedVariables false
set_option linter.unusedSimpArgs false
namespace Go.Proofs.YtgmhapjidbdhnaaGreat
open Go.ChangeShapes Go.WideShapes Go.ChangeAt Go.RowKit
section
variable {H : Type} {enc : TypeId × Value → H} {P : Program} {w : World} {base : Nat} {spare : Nat → Bool} {held : Bool}
theorem okWide_array {r : Reach} {b0 n : Nat} {t e : TypeId} {v : Value} (ht : P.underlying t = some (.array n e)) (h : Value.okWide P w r b0 t v) : ∃ cs, v = .agg cs ∧ cs.size = P.cellsOf t := by
  simp only [Value.okWide, ht] at h
  obtain ⟨cs, h1, h2, _⟩ := h
  exact ⟨cs, h1, h2⟩
/-- The type of the leaf that is the cell o of a value of type t. -/
def leafOf (P : Program) : Nat → TypeId → Nat → Option TypeId
  | 0, _, _ => none
  | d + 1, t, o => match P.underlying t with
    | some (.struct fs) => fs.toList.findSome? fun f => if f.offset ≤ o ∧ o < f.offset + P.cellsOf f.type then leafOf P d f.type (o - f.offset) else none
    | some (.array n e) => if o / P.cellsOf e < n then (if 0 < P.cellsOf e then leafOf P d e (o % P.cellsOf e) else none) else none
    | _ => if o = 0 then some t else none
theorem trod_single {t : TypeId} {fuel : Nat} {cs : List Value} {x : DataW H × List MemPlace} (h1 : ∀ fs, P.underlying t ≠ some (.struct fs)) (h2 : ∀ n e, P.underlying t ≠ some (.array n e))
    (h : DataW.trod enc P w base spare held fuel t cs = some x) : ∃ c, cs = [c] := by
  cases fuel with
  | zero => simp [DataW.trod] at h
  | succ n =>
    unfold DataW.trod at h
    split at h
    all_goals first
      | exact ⟨_, rfl⟩
      | (exact absurd ‹_› (h1 _))
      | (exact absurd ‹_› (h2 _ _))
      | cases h
theorem leaf_trod : ∀ (d : Nat) (t : TypeId) (o : Nat) (u : TypeId) (fuel : Nat) (cs : List Value) (x : DataW H × List MemPlace), leafOf P d t o = some u → DataW.trod enc P w base spare held fuel t cs = some x →
    ∃ c fuel' y, cs[o]? = some c ∧ DataW.trod enc P w base spare held fuel' u [c] = some y
  | 0, _, _, _, _, _, _, h, _ => by simp [leafOf] at h
  | d + 1, t, o, u, fuel, cs, x, h, ht => by
    unfold leafOf at h
    split at h
    · rename_i fs hu
      obtain ⟨f, hf, hif⟩ := List.exists_of_findSome?_eq_some h
      split at hif
      · rename_i ho
        obtain ⟨i, hi, hfi⟩ := List.mem_iff_getElem.1 hf
        obtain ⟨xs, n, _, _, hl, hlen, hall⟩ := DataW.trod_struct hu ht
        have hi' : i < fs.size := by simpa using hi
        have := hall i f (by rw [Array.getElem?_eq_getElem hi']; simpa using hfi)
        rw [List.getElem?_eq_getElem (show i < xs.length by omega)] at this
        obtain ⟨c, fu, y, hc, hy⟩ := leaf_trod d _ _ _ _ _ _ hif this
        refine ⟨c, fu, y, ?_, hy⟩
        rw [List.getElem?_take, if_pos (by omega), List.getElem?_drop, show f.offset + (o - f.offset) = o by omega] at hc
        exact hc
      · cases hif
    · rename_i n e hu
      split at h
      · rename_i ho
        split at h
        · rename_i hp
          obtain ⟨xs, m, _, _, hl, hlen, hall⟩ := DataW.trod_array hu ht
          have := hall _ ho
          rw [List.getElem?_eq_getElem (show o / P.cellsOf e < xs.length by omega)] at this
          obtain ⟨c, fu, y, hc, hy⟩ := leaf_trod d _ _ _ _ _ _ h this
          refine ⟨c, fu, y, ?_, hy⟩
          rw [List.getElem?_take, if_pos (Nat.mod_lt _ hp), List.getElem?_drop, Nat.mul_comm, Nat.div_add_mod] at hc
          exact hc
        · cases h
      · cases h
    · rename_i h1 h2
      split at h
      · rename_i ho
        injection h with h; subst h; subst ho
        obtain ⟨c, rfl⟩ := trod_single (fun fs hfs => h1 fs hfs) (fun n e hne => h2 n e hne) ht
        exact ⟨c, _, x, rfl, ht⟩
      · cases h
/-- What the leaf at o is. -/
def leafKind (P : Program) (t : TypeId) (o : Nat) : Option TypeDesc := (leafOf P 6 t o).bind P.underlying
variable {t : TypeId} {o fuel : Nat} {cs : List Value} {x : DataW H × List MemPlace}
theorem leaf_any {d : TypeDesc} (h : leafKind P t o = some d) (ht : DataW.trod enc P w base spare held fuel t cs = some x) : ∃ c u fuel' y, cs[o]? = some c ∧ P.underlying u = some d ∧ DataW.trod enc P w base spare held fuel' u [c] = some y := by
  unfold leafKind at h
  obtain ⟨u, h1, h2⟩ := Option.bind_eq_some_iff.1 h
  obtain ⟨c, fu, y, hc, hy⟩ := leaf_trod _ _ _ _ _ _ _ h1 ht
  exact ⟨c, u, fu, y, hc, h2, hy⟩
theorem leaf_u32 (h : leafKind P t o = some (.int .u32)) (ht : DataW.trod enc P w base spare held fuel t cs = some x) : ∃ n : Nat, cs[o]? = some (.int .u32 n) ∧ n < 4294967296 := by
  obtain ⟨c, u, fu, y, hc, hu, hy⟩ := leaf_any h ht
  obtain ⟨n, e, _, hw⟩ := DataW.trod_int hu hy
  injection e with e; subst e
  simp [Lit.wf, IntKind.min, IntKind.max, IntKind.signed, IntKind.bits] at hw
  obtain ⟨m, rfl⟩ := Int.eq_ofNat_of_zero_le hw.1
  exact ⟨m, hc, by omega⟩
theorem leaf_u64 (h : leafKind P t o = some (.int .u64)) (ht : DataW.trod enc P w base spare held fuel t cs = some x) : ∃ n : Nat, cs[o]? = some (.int .u64 n) ∧ n < 18446744073709551616 := by
  obtain ⟨c, u, fu, y, hc, hu, hy⟩ := leaf_any h ht
  obtain ⟨n, e, _, hw⟩ := DataW.trod_int hu hy
  injection e with e; subst e
  simp [Lit.wf, IntKind.min, IntKind.max, IntKind.signed, IntKind.bits] at hw
  obtain ⟨m, rfl⟩ := Int.eq_ofNat_of_zero_le hw.1
  exact ⟨m, hc, by omega⟩
theorem leaf_u8 (h : leafKind P t o = some (.int .u8)) (ht : DataW.trod enc P w base spare held fuel t cs = some x) : ∃ n : UInt8, cs[o]? = some (.int .u8 n.toNat) := by
  obtain ⟨c, u, fu, y, hc, hu, hy⟩ := leaf_any h ht
  obtain ⟨n, e, _, hw⟩ := DataW.trod_int hu hy
  injection e with e; subst e
  simp [Lit.wf, IntKind.min, IntKind.max, IntKind.signed, IntKind.bits] at hw
  obtain ⟨m, rfl⟩ := Int.eq_ofNat_of_zero_le hw.1
  refine ⟨UInt8.ofNat m, ?_⟩
  rw [hc, UInt8.toNat_ofNat', Nat.mod_eq_of_lt (by omega)]
theorem leaf_bool (h : leafKind P t o = some .bool) (ht : DataW.trod enc P w base spare held fuel t cs = some x) : ∃ b : Bool, cs[o]? = some (.bool b) := by
  obtain ⟨c, u, fu, y, hc, hu, hy⟩ := leaf_any h ht
  cases fu with
  | zero => simp [DataW.trod] at hy
  | succ n =>
    unfold DataW.trod at hy
    rw [hu] at hy
    split at hy <;> simp_all
theorem leaf_string (h : leafKind P t o = some .string) (ht : DataW.trod enc P w base spare held fuel t cs = some x) : ∃ s : ByteArray, cs[o]? = some (.string s) ∧ s.size ≤ maxLen := by
  obtain ⟨c, u, fu, y, hc, hu, hy⟩ := leaf_any h ht
  obtain ⟨s, e, _, hs⟩ := DataW.trod_string hu hy
  injection e with e; subst e
  exact ⟨s, hc, hs⟩
end
section
variable {H : Type} {enc : TypeId × Value → H} {w : World} {base b0 : Nat} {spare : Nat → Bool} {held : Bool} {r : Reach} {v : Value} {d : DataW H} {p : List MemPlace}
set_option maxRecDepth 100000 in
theorem open_set (hv : Value.okWide Tryz.prog w r b0 30 v) (h : DataW.Trod enc Tryz.prog w base spare held 30 v d p) : ∃ s : St, s.wf ∧ v = eSet s := by
  obtain ⟨cs, rfl, hsz⟩ := okWide_struct Tryz.underlying30 hv
  obtain ⟨fuel, hf⟩ := h
  have hl : cs.toList.length = 14 := by rw [Array.length_toList, hsz]; kernel_rfl
  obtain ⟨a0, e0⟩ := leaf_bool (o := 0) (by kernel_rfl) hf
  obtain ⟨a1, e1, w1⟩ := leaf_u32 (o := 1) (by kernel_rfl) hf
  obtain ⟨a2, e2⟩ := leaf_bool (o := 2) (by kernel_rfl) hf
  obtain ⟨a3, e3, w3⟩ := leaf_u32 (o := 3) (by kernel_rfl) hf
  obtain ⟨a4, e4⟩ := leaf_bool (o := 4) (by kernel_rfl) hf
  obtain ⟨a5, e5, w5⟩ := leaf_u32 (o := 5) (by kernel_rfl) hf
  obtain ⟨a6, e6⟩ := leaf_bool (o := 6) (by kernel_rfl) hf
  obtain ⟨a7, e7, w7⟩ := leaf_u64 (o := 7) (by kernel_rfl) hf
  obtain ⟨a8, e8, w8⟩ := leaf_u32 (o := 8) (by kernel_rfl) hf
  obtain ⟨a9, e9, w9⟩ := leaf_u32 (o := 9) (by kernel_rfl) hf
  obtain ⟨a10, e10, w10⟩ := leaf_u32 (o := 10) (by kernel_rfl) hf
  obtain ⟨a11, e11, w11⟩ := leaf_u32 (o := 11) (by kernel_rfl) hf
  obtain ⟨a12, e12, w12⟩ := leaf_u32 (o := 12) (by kernel_rfl) hf
  obtain ⟨a13, e13, w13⟩ := leaf_u32 (o := 13) (by kernel_rfl) hf
  refine ⟨⟨a0, a1, a2, a3, a4, a5, a6, a7, a8, ⟨a9, a10⟩, a11, ⟨a12, a13⟩⟩, ⟨w1, w3, w5, w7, w8, ⟨w9, w10⟩, w11, ⟨w12, w13⟩⟩, ?_⟩
  unfold eSet
  refine congrArg Value.agg (Array.ext' (List.ext_getElem? fun i => ?_))
  match i with
  | 0 => exact e0
  | 1 => exact e1
  | 2 => exact e2
  | 3 => exact e3
  | 4 => exact e4
  | 5 => exact e5
  | 6 => exact e6
  | 7 => exact e7
  | 8 => exact e8
  | 9 => exact e9
  | 10 => exact e10
  | 11 => exact e11
  | 12 => exact e12
  | 13 => exact e13
  | k + 14 => rw [List.getElem?_eq_none (by omega), List.getElem?_eq_none (by simp [St.cells])]
end
end Go.Proofs.YtgmhapjidbdhnaaGreat
namespace Go.Proofs.YtgmhapjidbdhnaaGreat
open Go.ChangeShapes Go.WideShapes Go.ChangeAt Go.RowKit
section
variable {H : Type} {enc : TypeId × Value → H} {P : Program} {w : World} {base b0 : Nat} {spare : Nat → Bool} {held : Bool} {r : Reach} {t : TypeId} {v : Value} {d : DataW H} {p : List MemPlace}
theorem open_nat {k : IntKind} {m : Nat} (hu : P.underlying t = some (.int k)) (hk : ∀ n : Int, (Lit.int k n).wf = true → 0 ≤ n ∧ n ≤ (m : Int) - 1) (hv : Value.okWide P w r b0 t v) (h : DataW.Trod enc P w base spare held t v d p) : ∃ n : Nat, n < m ∧ v = .int k n := by
  obtain ⟨x, rfl, _, _, wx⟩ := open_int hu hv h
  obtain ⟨h0, h1⟩ := hk x wx
  obtain ⟨y, rfl⟩ := Int.eq_ofNat_of_zero_le h0
  exact ⟨y, by omega, rfl⟩
theorem open_u8 (hu : P.underlying t = some (.int .u8)) (hv : Value.okWide P w r b0 t v) (h : DataW.Trod enc P w base spare held t v d p) : ∃ n : Nat, n < 256 ∧ v = .int .u8 n :=
  open_nat hu (fun n hn => by simp [Lit.wf, IntKind.min, IntKind.max, IntKind.signed, IntKind.bits] at hn; omega) hv h
theorem open_u16 (hu : P.underlying t = some (.int .u16)) (hv : Value.okWide P w r b0 t v) (h : DataW.Trod enc P w base spare held t v d p) : ∃ n : Nat, n < 65536 ∧ v = .int .u16 n :=
  open_nat hu (fun n hn => by simp [Lit.wf, IntKind.min, IntKind.max, IntKind.signed, IntKind.bits] at hn; omega) hv h
theorem open_u32 (hu : P.underlying t = some (.int .u32)) (hv : Value.okWide P w r b0 t v) (h : DataW.Trod enc P w base spare held t v d p) : ∃ n : Nat, n < 4294967296 ∧ v = .int .u32 n :=
  open_nat hu (fun n hn => by simp [Lit.wf, IntKind.min, IntKind.max, IntKind.signed, IntKind.bits] at hn; omega) hv h
theorem open_u64 (hu : P.underlying t = some (.int .u64)) (hv : Value.okWide P w r b0 t v) (h : DataW.Trod enc P w base spare held t v d p) : ∃ n : Nat, n < 18446744073709551616 ∧ v = .int .u64 n :=
  open_nat hu (fun n hn => by simp [Lit.wf, IntKind.min, IntKind.max, IntKind.signed, IntKind.bits] at hn; omega) hv h
theorem open_bytes {e : TypeId} (hu : P.underlying t = some (.slice e)) (he : P.underlying e = some (.int .u8)) (hc : P.cellsOf e = 1) (hv : Value.okWide P w r b0 t v) (h : DataW.Trod enc P w base (fun _ => true) held t v d p) :
    ∃ (A : Option Addr) (l c : Nat) (xs : List UInt8), v = .slice A l c ∧ Bs w A l xs ∧ l ≤ c ∧ (A = none → c = 0) := by
  obtain ⟨a0, len0, cap0, rfl⟩ := okWide_slice hu hv
  obtain ⟨fuel, hf⟩ := h
  rcases open_ints hu he hc hf with ⟨hcs, _⟩ | ⟨x, l, c, zs, hcs, _, hl, hm, hz, _, hcell, hwz⟩
  · simp [Value.cells] at hcs
    obtain ⟨rfl, rfl, rfl⟩ := hcs
    exact ⟨_, _, _, [], rfl, Bs.nil _ _, Nat.le_refl _, fun _ => rfl⟩
  · simp [Value.cells] at hcs
    obtain ⟨rfl, rfl, rfl⟩ := hcs
    exact ⟨_, _, _, _, rfl, Bs.of_row hl hm (by simpa using hz) hcell hwz, hl, fun h => by cases h⟩
end
end Go.Proofs.YtgmhapjidbdhnaaGreat
namespace Go.Proofs.YtgmhapjidbdhnaaGreat
open Go.RowKit
theorem f4_take (xs : List UInt8) {m i : Nat} (h : i + 4 ≤ m) : f4 (xs.take m) i = f4 xs i := by
  rw [f4, f4, List.drop_take, List.take_take, show min 4 (m - i) = 4 by omega]
theorem f8_take (xs : List UInt8) {m i : Nat} (h : i + 8 ≤ m) : f8 (xs.take m) i = f8 xs i := by
  rw [f8, f8, List.drop_take, List.take_take, show min 8 (m - i) = 8 by omega]
theorem f4_lt (xs : List UInt8) (i : Nat) : f4 xs i < 4294967296 :=
  Nat.lt_of_lt_of_le (beN_lt _) (Nat.le_trans (Nat.pow_le_pow_right (by decide) (List.length_take_le 4 _)) (by decide))
theorem f8_lt (xs : List UInt8) (i : Nat) : f8 xs i < 18446744073709551616 :=
  Nat.lt_of_lt_of_le (beN_lt _) (Nat.le_trans (Nat.pow_le_pow_right (by decide) (List.length_take_le 8 _)) (by decide))
theorem tm_wf (xs : List UInt8) (i : Nat) : (tm xs i).wf := by
  have := f8_lt xs i
  constructor <;> simp only [tm] <;> omega
theorem atOf_wf (xs : List UInt8) : (atOf xs).wf := by
  refine ⟨fun k => ?_, f8_lt _ _, f8_lt _ _, f8_lt _ _, tm_wf _ _, tm_wf _ _, tm_wf _ _⟩
  match k with
  | 0 => exact f4_lt _ _
  | 1 => exact f4_lt _ _
  | 2 => exact f4_lt _ _
  | 3 => exact f4_lt _ _
  | 4 => exact f4_lt _ _
  | k + 5 => simp [At.head, atOf]
theorem put4_f4 {xs : List UInt8} {i : Nat} (h : i + 4 ≤ xs.length) : put4 (f4 xs i) = (xs.drop i).take 4 := put4_beN _ (by simp; omega)
theorem put8_f8 {xs : List UInt8} {i : Nat} (h : i + 8 ≤ xs.length) : put8 (f8 xs i) = (xs.drop i).take 8 := put8_beN _ (by simp; omega)
theorem putTm_tm {xs : List UInt8} {i : Nat} (h : i + 8 ≤ xs.length) : putTm (tm xs i) = (xs.drop i).take 8 := by
  rw [← put8_f8 h, putTm, tm, put8, put4_mod]
theorem take_cat (xs : List UInt8) (i k : Nat) : xs.take i ++ (xs.drop i).take k = xs.take (i + k) := (List.take_add ..).symm
theorem headB_atOf {xs : List UInt8} (h : 20 ≤ xs.length) : (atOf xs).headB 5 = xs.take 20 := by
  have e : (atOf xs).headB 5 = put4 (f4 xs 0) ++ (put4 (f4 xs 4) ++ (put4 (f4 xs 8) ++ (put4 (f4 xs 12) ++ (put4 (f4 xs 16) ++ [])))) := rfl
  rw [e, List.append_nil, put4_f4 (by omega), put4_f4 (by omega), put4_f4 (by omega), put4_f4 (by omega), put4_f4 (by omega)]
  simp only [← List.append_assoc, List.drop_zero, take_cat]
theorem putAt_atOf {xs : List UInt8} (h : 84 ≤ xs.length) : putAt (atOf xs) = xs.take 84 ↔ f8 xs 36 = 0 ∧ f8 xs 44 = 1 := by
  have e : putAt (atOf xs) = xs.take 36 ++ put8 0 ++ put8 1 ++ ((xs.drop 52).take 8 ++ (xs.drop 60).take 8 ++ (xs.drop 68).take 8 ++ (xs.drop 76).take 8) := by
    rw [putAt, headB_atOf (by omega)]
    simp only [atOf]
    rw [put8_f8 (by omega), put8_f8 (by omega), put8_f8 (by omega), putTm_tm (by omega), putTm_tm (by omega), putTm_tm (by omega), take_cat, take_cat]
    simp only [List.append_assoc]
  have e2 : xs.take 84 = xs.take 36 ++ (xs.drop 36).take 8 ++ (xs.drop 44).take 8 ++ ((xs.drop 52).take 8 ++ (xs.drop 60).take 8 ++ (xs.drop 68).take 8 ++ (xs.drop 76).take 8) := by
    simp only [← List.append_assoc, take_cat]
  rw [e, e2, List.append_left_inj, List.append_assoc, List.append_assoc, List.append_right_inj]
  have l1 : (put8 0).length = ((xs.drop 36).take 8).length := by simp; omega
  constructor
  · intro hh
    obtain ⟨h1, h2⟩ := List.append_inj hh l1
    constructor
    · rw [f8, ← h1, beN_put8]
    · rw [f8, ← h2, beN_put8]
  · rintro ⟨h1, h2⟩
    rw [← put8_f8 (by omega), ← put8_f8 (by omega), h1, h2]
theorem atMay_eq (xs : List UInt8) : atMay xs = ((atOf xs).may && ((f8 xs 36 == 0) && (f8 xs 44 == 1))) := by
  rw [atMay, At.may]
  simp only [atOf]
  ac_rfl
theorem atOf_take {xs : List UInt8} : atOf (xs.take 84) = atOf xs := by
  simp only [atOf, tm]
  rw [f4_take xs (by omega), f4_take xs (by omega), f4_take xs (by omega), f4_take xs (by omega), f4_take xs (by omega), f8_take xs (by omega), f8_take xs (by omega), f8_take xs (by omega), f8_take xs (by omega), f8_take xs (by omega), f8_take xs (by omega)]
theorem conv_bytes {A : Option Addr} {n cap : Nat} {xs : List UInt8} {w : World} (hB : Bs w A n xs) (hp : 0 < n) :
    (convert 24 9 (.slice A n cap)).run Tryz.prog w = .ok (.string ⟨xs.toArray⟩) w := by
  obtain ⟨hx, hn, h⟩ := hB
  obtain ⟨b, off, rfl, hl, hc⟩ := h hp
  have := run_convert_bytes_arg (P := Tryz.prog) w 24 5 Tryz.underlying24 Tryz.underlying5 b off n cap (xs.map fun x => (x.toNat : Int)) (by simpa using hx) (fun i hi => by rw [hc i hi]; simp [List.getD, List.getElem?_eq_getElem (show i < xs.length by omega)]) 9 Tryz.underlying9
  rw [this]
  have e : List.map ((fun n : Int => UInt8.ofNat n.toNat) ∘ fun x : UInt8 => (x.toNat : Int)) xs = xs := by
    conv => rhs; rw [← List.map_id xs]
    exact List.map_congr_left fun x _ => by simp
  simp [strOfNums, e]
theorem f8_split {xs : List UInt8} {i : Nat} (h : i + 8 ≤ xs.length) : f8 xs i = f4 xs i * 4294967296 + f4 xs (i + 4) := by
  have e : (xs.drop i).take 8 = (xs.drop i).take 4 ++ (xs.drop (i + 4)).take 4 := by rw [show 8 = 4 + 4 from rfl, List.take_add, List.drop_drop]
  rw [f8, e, beN_append, show ((xs.drop (i + 4)).take 4).length = 4 by simp; omega]
  rfl
theorem agg_atOf {xs : List UInt8} (h : 84 ≤ xs.length) : Value.agg #[.int .u32 (f4 (xs.take 84) 0), .int .u32 (f4 (xs.take 84) 4), .int .u32 (f4 (xs.take 84) 8), .int .u32 (f4 (xs.take 84) 12), .int .u32 (f4 (xs.take 84) 16), .int .u64 (f8 (xs.take 84) 20), .int .u64 (f8 (xs.take 84) 28), .int .u64 (f8 (xs.take 84) 52), .int .u32 (f4 (xs.take 84) 60), .int .u32 (f4 (xs.take 84) 64), .int .u32 (f4 (xs.take 84) 68), .int .u32 (f4 (xs.take 84) 72), .int .u32 (f4 (xs.take 84) 76), .int .u32 (f4 (xs.take 84) 80)] = eAttrs (atOf xs) := by
  have d : ∀ i, i + 8 ≤ 84 → f4 (xs.take 84) i = f8 xs i / 4294967296 ∧ f4 (xs.take 84) (i + 4) = f8 xs i % 4294967296 := fun i hi => by
    have h1 := f8_split (xs := xs) (i := i) (by omega)
    have h2 := f4_lt xs (i + 4)
    rw [f4_take xs (by omega), f4_take xs (by omega)]
    omega
  have d1 := d 60 (by omega); have d2 := d 68 (by omega); have d3 := d 76 (by omega)
  rw [d1.1, d1.2, d2.1, d2.2, d3.1, d3.2, f4_take xs (by omega), f4_take xs (by omega), f4_take xs (by omega), f4_take xs (by omega), f4_take xs (by omega), f8_take xs (by omega), f8_take xs (by omega), f8_take xs (by omega)]
  rfl
theorem putAt_pos (a : At) : 0 < (putAt a).length := by simp only [putAt, List.length_append, put8_length]; omega
theorem bytes_toList (l : List UInt8) : (⟨l.toArray⟩ : ByteArray).toList = l := ByteArray.toList_mk l
section
variable {A : Option Addr} {n cap k : Nat} {xs : List UInt8} {w : World}
end
end Go.Proofs.YtgmhapjidbdhnaaGreat
namespace Go.Proofs.YtgmhapjidbdhnaaGreat
open Go.RowKit
/-- What a Get comes to: the value, or zero; and the error, or none. -/
def outP {α : Type} (p : Ps α) (z : α) (b : List UInt8) : α × Int := match p b with | .ok (v, _) => (v, 0) | .error e => (z, e)
theorem outP_ok {α : Type} {p : Ps α} {z v : α} {b : List UInt8} {k : Nat} (h : p b = .ok (v, k)) : outP p z b = (v, 0) := by rw [outP, h]
theorem outP_bad {α : Type} {p : Ps α} {z : α} {b : List UInt8} {e : Int} (h : p b = .error e) : outP p z b = (z, e) := by rw [outP, h]
section
variable {A : Option Addr} {n cap : Nat} {xs : List UInt8} {w : World}
end
namespace RRB
variable {w w' : World} {R : Nat} {A : Option Addr} {n cap k : Nat} {er : Int}
end RRB
section
variable {R : Nat} {A : Option Addr} {n cap k : Nat} {xs : List UInt8} {w : World} {er : Int}
theorem pNum_len {b : List UInt8} {v j : Nat} (h : pNum b = .ok (v, j)) {k n : Nat} (hl : b.length = n - k ∧ k ≤ n) : j = 4 ∧ k + 4 ≤ n := by
  simp only [pNum] at h
  split at h
  · cases h
  · injection h with h; injection h with h1 h2; exact ⟨h2.symm, by omega⟩
theorem pLong_len {b : List UInt8} {v j : Nat} (h : pLong b = .ok (v, j)) {k n : Nat} (hl : b.length = n - k ∧ k ≤ n) : j = 8 ∧ k + 8 ≤ n := by
  simp only [pLong] at h
  split at h
  · cases h
  · injection h with h; injection h with h1 h2; exact ⟨h2.symm, by omega⟩
theorem pYes_len {b : List UInt8} {v : Bool} {j : Nat} (h : pYes b = .ok (v, j)) {k n : Nat} (hl : b.length = n - k ∧ k ≤ n) : j = 4 ∧ k + 4 ≤ n := by
  simp only [pYes] at h
  split at h
  · cases h
  · split at h
    · cases h
    · injection h with h; injection h with h1 h2; exact ⟨h2.symm, by omega⟩
theorem pNum_err {b : List UInt8} {er : Int} (h : pNum b = .error er) : er ≠ 0 := by
  simp only [pNum] at h
  split at h
  · injection h with h; omega
  · cases h
theorem pLong_err {b : List UInt8} {er : Int} (h : pLong b = .error er) : er ≠ 0 := by
  simp only [pLong] at h
  split at h
  · injection h with h; omega
  · cases h
theorem pYes_err {b : List UInt8} {er : Int} (h : pYes b = .error er) : er ≠ 0 := by
  simp only [pYes] at h
  split at h
  · injection h with h; omega
  · split at h
    · injection h with h; omega
    · cases h

end
end Go.Proofs.YtgmhapjidbdhnaaGreat
namespace Go.Proofs.YtgmhapjidbdhnaaGreat
open Go.RowKit
section
variable {A : Option Addr} {n cap : Nat} {xs : List UInt8} {w : World}
theorem pTime_err {b : List UInt8} {er : Int} (h : pTime b = .error er) : er ≠ 0 := by
  simp only [pTime] at h
  split at h
  · injection h with h; omega
  · split at h
    · cases h
    · injection h with h; omega
theorem pTime_len {b : List UInt8} {v : Tm} {j : Nat} (h : pTime b = .ok (v, j)) {k n : Nat} (hl : b.length = n - k ∧ k ≤ n) : j = 8 ∧ k + 8 ≤ n := by
  simp only [pTime] at h
  split at h
  · cases h
  · split at h
    · injection h with h; injection h with h1 h2; exact ⟨h2.symm, by omega⟩
    · cases h
end
section
variable {R : Nat} {A : Option Addr} {n cap k : Nat} {xs : List UInt8} {w : World} {er : Int}
end
end Go.Proofs.YtgmhapjidbdhnaaGreat
namespace Go.Proofs.YtgmhapjidbdhnaaGreat
open Go.RowKit
section
variable {R : Nat} {A : Option Addr} {n cap k : Nat} {xs : List UInt8} {w : World} {er : Int}
theorem pAttrs_err {b : List UInt8} {er : Int} (h : pAttrs b = .error er) : er ≠ 0 := by
  simp only [pAttrs] at h
  split at h
  · injection h with h; omega
  · split at h
    · cases h
    · injection h with h; omega
theorem pAttrs_len {b : List UInt8} {v : At} {j : Nat} (h : pAttrs b = .ok (v, j)) {k n : Nat} (hl : b.length = n - k ∧ k ≤ n) : j = 84 ∧ k + 84 ≤ n := by
  simp only [pAttrs] at h
  split at h
  · cases h
  · split at h
    · injection h with h; injection h with h1 h2; exact ⟨h2.symm, by omega⟩
    · cases h
end
end Go.Proofs.YtgmhapjidbdhnaaGreat
namespace Go.Proofs.YtgmhapjidbdhnaaGreat
open Go.RowKit
section
variable {R : Nat} {A : Option Addr} {n cap k : Nat} {xs : List UInt8} {w : World} {er : Int}
theorem GetPost.three {α : Type} {p : Ps α} {enc : α → Value} {z : α} {n : Nat} {xs : List UInt8} : ∃ v j er, ((p xs = .ok (v, j) ∧ er = 0) ∨ (p xs = .error er ∧ v = z ∧ j = 0)) ∧ ∀ w e w', GetPost p enc z n xs w e w' → Below w.heap.size w w' ∧ e = .returned (.tuple #[enc v, .int .i64 j, .int .i64 er]) := by
  rcases hp : p xs with er | ⟨v, k⟩
  · refine ⟨z, 0, er, .inr ⟨rfl, rfl, rfl⟩, fun w e w' h => ⟨h.1, ?_⟩⟩
    rcases h.2 with ⟨v', k', h1, _⟩ | ⟨er', h1, rfl⟩
    · rw [hp] at h1; cases h1
    · rw [hp] at h1; injection h1 with h1; subst h1; rfl
  · refine ⟨v, k, 0, .inl ⟨rfl, rfl⟩, fun w e w' h => ⟨h.1, ?_⟩⟩
    rcases h.2 with ⟨v', k', h1, _, rfl⟩ | ⟨er', h1, _⟩
    · rw [hp] at h1; injection h1 with h1; injection h1 with h1 h2; subst h1; subst h2; rfl
    · rw [hp] at h1; cases h1
end
end Go.Proofs.YtgmhapjidbdhnaaGreat
namespace Go.Proofs.YtgmhapjidbdhnaaGreat
open Go.RowKit
/-- One part read: a value and further on; or an error; or it stood at an error already. -/
def RStep {α : Type} (p : Ps α) (xs : List UInt8) (k : Nat) (er : Int) (v : α) (k' : Nat) (er' : Int) : Prop :=
  (er = 0 ∧ er' = 0 ∧ ∃ j, p (xs.drop k) = .ok (v, j) ∧ k' = k + j) ∨ (er = 0 ∧ er' ≠ 0 ∧ p (xs.drop k) = .error er') ∨ (er ≠ 0 ∧ er' = er)
/-- What is left of P behind a part of it; or its error; or it stood at an error already. -/
def RInv {α : Type} (P : Ps α) (xs : List UInt8) (k0 : Nat) (er0 : Int) (k : Nat) (er : Int) (q : Ps α) : Prop :=
  (er0 = 0 ∧ er = 0 ∧ ∃ j, k = k0 + j ∧ Goes P (xs.drop k0) j q) ∨ (er0 = 0 ∧ er ≠ 0 ∧ P (xs.drop k0) = .error er) ∨ (er0 ≠ 0 ∧ er = er0)
namespace RInv
variable {α β γ : Type} {P : Ps α} {xs : List UInt8} {k0 k k' : Nat} {er0 er er' : Int}
theorem start (P : Ps α) (xs : List UInt8) (k : Nat) (er : Int) : RInv P xs k er k er P := by
  by_cases h : er = 0
  · exact .inl ⟨h, h, 0, rfl, Goes.start _ _⟩
  · exact .inr (.inr ⟨h, rfl⟩)
theorem map {q q' : Ps α} (h : RInv P xs k0 er0 k er q) (hq : ∀ j, Goes P (xs.drop k0) j q → Goes P (xs.drop k0) j q') : RInv P xs k0 er0 k er q' := by
  rcases h with ⟨h1, h2, j, h3, h4⟩ | h | h
  · exact .inl ⟨h1, h2, j, h3, hq j h4⟩
  · exact .inr (.inl h)
  · exact .inr (.inr h)
theorem assoc {a : Ps β} {f : β → Ps γ} {g : γ → Ps α} (h : RInv P xs k0 er0 k er (Ps.bind (Ps.bind a f) g)) : RInv P xs k0 er0 k er (Ps.bind a fun v => Ps.bind (f v) g) := h.map fun _ => Goes.assoc
theorem pure_bind {x : β} {f : β → Ps α} (h : RInv P xs k0 er0 k er (Ps.bind (Ps.pure x) f)) : RInv P xs k0 er0 k er (f x) := h.map fun _ => Goes.pure_bind
theorem step {a : Ps β} {f : β → Ps α} {v : β} (h : RInv P xs k0 er0 k er (Ps.bind a f)) (hs : RStep a xs k er v k' er') : RInv P xs k0 er0 k' er' (f v) := by
  rcases h with ⟨rfl, rfl, j, rfl, h4⟩ | ⟨h1, h2, h3⟩ | ⟨h1, rfl⟩
  · rcases hs with ⟨_, rfl, i, hp, rfl⟩ | ⟨_, h2, hp⟩ | ⟨h1, rfl⟩
    · refine .inl ⟨rfl, rfl, j + i, by omega, h4.step (by rw [List.drop_drop]; exact hp)⟩
    · exact .inr (.inl ⟨rfl, h2, h4.fail (by rw [List.drop_drop]; exact hp)⟩)
    · exact absurd rfl h1
  · rcases hs with ⟨h, _⟩ | ⟨h, _⟩ | ⟨_, rfl⟩
    · exact absurd h h2
    · exact absurd h h2
    · exact .inr (.inl ⟨h1, h2, h3⟩)
  · rcases hs with ⟨h, _⟩ | ⟨h, _⟩ | ⟨_, rfl⟩
    · exact absurd h h1
    · exact absurd h h1
    · exact .inr (.inr ⟨h1, rfl⟩)
theorem must {c : Bool} {f : Unit → Ps α} (h : RInv P xs k0 er0 k er (Ps.bind (Ps.need c 5) f)) : RInv P xs k0 er0 k (if er = 0 ∧ c = false then 5 else er) (f ()) := by
  refine h.step ?_
  by_cases he : er = 0
  · subst he
    cases c
    · exact .inr (.inl ⟨rfl, by simp, by simp [Ps.need]⟩)
    · exact .inl ⟨rfl, by simp, 0, by simp [Ps.need], rfl⟩
  · exact .inr (.inr ⟨he, by simp [he]⟩)
theorem had {p : Ps β} {z : β} {f : β × Bool → Ps α} {y : Bool} (h : RInv P xs k0 er0 k er (Ps.bind (pHad p z) f)) (hs : RStep pYes xs k er y k' er') :
    RInv P xs k0 er0 k' er' (Ps.bind (if y then Ps.bind p fun x => Ps.pure (x, true) else Ps.pure (z, false)) f) := h.assoc.step hs
theorem had_yes {p : Ps β} {z : β} {f : β × Bool → Ps α} {y : Bool} (hv : y = true) (h : RInv P xs k0 er0 k er (Ps.bind (if y = true then Ps.bind p fun x => Ps.pure (x, true) else Ps.pure (z, false)) f)) : RInv P xs k0 er0 k er (Ps.bind p fun x => f (x, true)) := by
  rw [if_pos hv] at h
  exact h.assoc.map fun j hj => by simpa only [Ps.pure_bind] using hj
theorem had_no {p : Ps β} {z : β} {f : β × Bool → Ps α} {y : Bool} (hv : y = false) (h : RInv P xs k0 er0 k er (Ps.bind (if y = true then Ps.bind p fun x => Ps.pure (x, true) else Ps.pure (z, false)) f)) : RInv P xs k0 er0 k er (f (z, y)) := by
  rw [if_neg (by simp [hv])] at h
  rw [hv]
  exact h.pure_bind
theorem mode {f : Nat → Ps α} {v : Nat} (h : RInv P xs k0 er0 k er (Ps.bind pMode f)) (hs : RStep pNum xs k er v k' er') :
    RInv P xs k0 er0 k' (if er' = 0 ∧ decide (v ≤ 4095) = false then 5 else er') (f v) := by
  have h1 := (h.assoc.step hs).assoc.must
  exact h1.pure_bind
theorem mode0 {f : Nat → Ps α} {v : Nat} (h : RInv P xs k0 er0 k er (Ps.bind pMode f)) (hs : RStep pNum xs k er v k' er') :
    RInv P xs k0 er0 k' er' (Ps.bind (Ps.need (decide (v ≤ 4095)) 5) fun _ => f v) := (h.assoc.step hs).assoc.map fun j hj => by simpa only [Ps.pure_bind] using hj
theorem mode1 {q : Ps α} {v : Nat} (h : RInv P xs k0 er0 k er (Ps.bind (Ps.need (decide (v ≤ 4095)) 5) fun _ => q)) (he : er' = if er = 0 ∧ decide ((v : Int) ≤ 4095) = false then 5 else er) : RInv P xs k0 er0 k er' q := by
  have e : decide ((v : Int) ≤ 4095) = decide (v ≤ 4095) := by rw [decide_eq_decide]; omega
  rw [he, e]; exact h.must
theorem how0 {f : Nat × Tm → Ps α} {v : Nat} (h : RInv P xs k0 er0 k er (Ps.bind pHow f)) (hs : RStep pNum xs k er v k' er') :
    RInv P xs k0 er0 k' er' (Ps.bind (Ps.need (decide (v ≤ 2)) 5) fun _ => Ps.bind (if v = 2 then Ps.bind pTime fun t => Ps.pure (v, t) else Ps.pure (v, ⟨0, 0⟩)) f) := (h.assoc.step hs).assoc
theorem how1 {q : Ps α} {v : Nat} (h : RInv P xs k0 er0 k er (Ps.bind (Ps.need (decide (v ≤ 2)) 5) fun _ => q)) (he : er' = if er = 0 ∧ decide ((v : Int) ≤ 2) = false then 5 else er) : RInv P xs k0 er0 k er' q := by
  have e : decide ((v : Int) ≤ 2) = decide (v ≤ 2) := by rw [decide_eq_decide]; omega
  rw [he, e]; exact h.must
theorem how {f : Nat × Tm → Ps α} {v : Nat} (h : RInv P xs k0 er0 k er (Ps.bind pHow f)) (hs : RStep pNum xs k er v k' er') :
    RInv P xs k0 er0 k' (if er' = 0 ∧ decide (v ≤ 2) = false then 5 else er') (Ps.bind (if v = 2 then Ps.bind pTime fun t => Ps.pure (v, t) else Ps.pure (v, ⟨0, 0⟩)) f) := (h.assoc.step hs).assoc.must
theorem how_to {f : Nat × Tm → Ps α} {v : Nat} (hv : v = 2) (h : RInv P xs k0 er0 k er (Ps.bind (if v = 2 then Ps.bind pTime fun t => Ps.pure (v, t) else Ps.pure (v, ⟨0, 0⟩)) f)) : RInv P xs k0 er0 k er (Ps.bind pTime fun t => f (v, t)) := by
  rw [if_pos hv] at h
  exact h.assoc.map fun j hj => by simpa only [Ps.pure_bind] using hj
theorem how_no {f : Nat × Tm → Ps α} {v : Nat} (hv : ¬ v = 2) (h : RInv P xs k0 er0 k er (Ps.bind (if v = 2 then Ps.bind pTime fun t => Ps.pure (v, t) else Ps.pure (v, ⟨0, 0⟩)) f)) : RInv P xs k0 er0 k er (f (v, ⟨0, 0⟩)) := by
  rw [if_neg hv] at h
  exact h.pure_bind
theorem done {x : α} (h : RInv P xs k0 er0 k er (Ps.pure x)) : RStep P xs k0 er0 x k er := by
  rcases h with ⟨h1, h2, j, h3, h4⟩ | h | h
  · exact .inl ⟨h1, h2, j, h4.done, h3⟩
  · exact .inr (.inl h)
  · exact .inr (.inr h)
end RInv
/-- What is left of what is to be set. -/
def sQ6 (m u g s : Nat × Bool) (r : Nat × Tm) : Ps St := Ps.bind pHow fun w => Ps.pure ⟨m.2, m.1, u.2, u.1, g.2, g.1, s.2, s.1, r.1, r.2, w.1, w.2⟩
def sQ5 (m u g s : Nat × Bool) : Ps St := Ps.bind pHow (sQ6 m u g s)
def sQ4 (m u g : Nat × Bool) : Ps St := Ps.bind (pHad pLong 0) (sQ5 m u g)
def sQ3 (m u : Nat × Bool) : Ps St := Ps.bind (pHad pNum 0) (sQ4 m u)
def sQ2 (m : Nat × Bool) : Ps St := Ps.bind (pHad pNum 0) (sQ3 m)
theorem pSet_eq : pSet = Ps.bind (pHad pMode 0) sQ2 := rfl
end Go.Proofs.YtgmhapjidbdhnaaGreat
namespace Go.Proofs.YtgmhapjidbdhnaaGreat
open Go.RowKit
section
variable {R : Nat} {A : Option Addr} {n cap k : Nat} {xs : List UInt8} {w : World} {er : Int}
end
/-- A block of the call's own. -/
def OwnL (w : World) (b : Nat) (l : List Value) : Prop := b < w.heap.size ∧ (∀ o, w.cell? ⟨b, o, none⟩ = l[o]?) ∧ (∀ o, w.frozen? ⟨b, o, none⟩ = false)
namespace OwnL
variable {w w' : World} {b R : Nat} {l : List Value}
theorem set (h : OwnL w b l) {i : Nat} {v : Value} (hi : i < l.length := by simp) : OwnL (w.setCell ⟨b, i, none⟩ v) b (l.set i v) := by
  refine ⟨by simpa [World.setCell] using h.1, fun o => ?_, fun o => ?_⟩
  · by_cases ho : i = o
    · subst ho
      have hc := h.2.1 i
      simp [go_sem, hc, List.getElem?_eq_getElem hi, hi]
    · have hc := h.2.1 o
      rw [List.getElem?_set_ne ho, ← hc]
      simp [go_sem, ho, Ne.symm ho]
  · have := h.2.2 o
    simp [go_sem, this]
theorem set_ (h : OwnL w b l) {i : Nat} {v : Value} (hi : i < l.length) : OwnL (w.setCell ⟨b, i, none⟩ v) b (l.set i v) := h.set hi
theorem other (h : OwnL w b l) {p : Addr} (hp : b ≠ p.block) {v : Value} : OwnL (w.setCell p v) b l := by
  have e := Below.heap_setCell w p v b hp
  exact ⟨by simpa [World.setCell] using h.1, fun o => (World.cell?_of_block (a := ⟨b, o, none⟩) e).trans (h.2.1 o), fun o => (World.frozen?_of_block (a := ⟨b, o, none⟩) e).trans (h.2.2 o)⟩
theorem grown (h : OwnL w b l) (hg : w.grownBy w' (some R)) (hne : ¬ b = R) : OwnL w' b l :=
  ⟨Nat.lt_of_lt_of_le h.1 hg.size, fun o => ((gcell hg).1 b o h.1 hne).trans (h.2.1 o), fun o => ((gcell hg).2 b o h.1 hne).trans (h.2.2 o)⟩
end OwnL
end Go.Proofs.YtgmhapjidbdhnaaGreat

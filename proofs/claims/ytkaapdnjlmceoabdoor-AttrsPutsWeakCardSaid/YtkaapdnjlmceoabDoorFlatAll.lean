/- Numbers and bytes that came in. -/
import Derived.OpenShut
import Derived.Test.YtkaapdnjlmceoabDoorRow
import Derived.Test.YtkaapdnjlmceoabDoorDPutSetB
import Derived.Test.YtkaapdnjlmceoabDoorDPutWeak
set_option linter.unusedVariables false
set_option linter.unusedSimpArgs false
namespace Go.Proofs.YtkaapdnjlmceoabDoor
open Go.ChangeShapes Go.WideShapes Go.ChangeAt Go.RowKit
section
variable {H : Type} {enc : TypeId × Value → H} {P : Program} {w : World} {base : Nat} {spare : Nat → Bool} {held : Bool}
theorem okWide_array {r : Reach} {b0 n : Nat} {t e : TypeId} {v : Value} (ht : P.underlying t = some (.array n e)) (h : Value.okWide P w r b0 t v) : ∃ cs, v = .agg cs ∧ cs.size = P.cellsOf t := by
  simp only [Value.okWide, ht] at h
  obtain ⟨cs, h1, h2, _⟩ := h
  exact ⟨cs, h1, h2⟩
/-- The type of the leaf that is the cell o of a value of type t. -/
def leafOf (P : Program) : Nat → TypeId → Nat → Option TypeId
  | 0, _, _ => none
  | d + 1, t, o => match P.underlying t with
    | some (.struct fs) => fs.toList.findSome? fun f => if f.offset ≤ o ∧ o < f.offset + P.cellsOf f.type then leafOf P d f.type (o - f.offset) else none
    | some (.array n e) => if o / P.cellsOf e < n then (if 0 < P.cellsOf e then leafOf P d e (o % P.cellsOf e) else none) else none
    | _ => if o = 0 then some t else none
theorem trod_single {t : TypeId} {fuel : Nat} {cs : List Value} {x : DataW H × List MemPlace} (h1 : ∀ fs, P.underlying t ≠ some (.struct fs)) (h2 : ∀ n e, P.underlying t ≠ some (.array n e))
    (h : DataW.trod enc P w base spare held fuel t cs = some x) : ∃ c, cs = [c] := by
  cases fuel with
  | zero => simp [DataW.trod] at h
  | succ n =>
    unfold DataW.trod at h
    split at h
    all_goals first
      | exact ⟨_, rfl⟩
      | (exact absurd ‹_› (h1 _))
      | (exact absurd ‹_› (h2 _ _))
      | cases h
theorem leaf_trod : ∀ (d : Nat) (t : TypeId) (o : Nat) (u : TypeId) (fuel : Nat) (cs : List Value) (x : DataW H × List MemPlace), leafOf P d t o = some u → DataW.trod enc P w base spare held fuel t cs = some x →
    ∃ c fuel' y, cs[o]? = some c ∧ DataW.trod enc P w base spare held fuel' u [c] = some y
  | 0, _, _, _, _, _, _, h, _ => by simp [leafOf] at h
  | d + 1, t, o, u, fuel, cs, x, h, ht => by
    unfold leafOf at h
    split at h
    · rename_i fs hu
      obtain ⟨f, hf, hif⟩ := List.exists_of_findSome?_eq_some h
      split at hif
      · rename_i ho
        obtain ⟨i, hi, hfi⟩ := List.mem_iff_getElem.1 hf
        obtain ⟨xs, n, _, _, hl, hlen, hall⟩ := DataW.trod_struct hu ht
        have hi' : i < fs.size := by simpa using hi
        have := hall i f (by rw [Array.getElem?_eq_getElem hi']; simpa using hfi)
        rw [List.getElem?_eq_getElem (show i < xs.length by omega)] at this
        obtain ⟨c, fu, y, hc, hy⟩ := leaf_trod d _ _ _ _ _ _ hif this
        refine ⟨c, fu, y, ?_, hy⟩
        rw [List.getElem?_take, if_pos (by omega), List.getElem?_drop, show f.offset + (o - f.offset) = o by omega] at hc
        exact hc
      · cases hif
    · rename_i n e hu
      split at h
      · rename_i ho
        split at h
        · rename_i hp
          obtain ⟨xs, m, _, _, hl, hlen, hall⟩ := DataW.trod_array hu ht
          have := hall _ ho
          rw [List.getElem?_eq_getElem (show o / P.cellsOf e < xs.length by omega)] at this
          obtain ⟨c, fu, y, hc, hy⟩ := leaf_trod d _ _ _ _ _ _ h this
          refine ⟨c, fu, y, ?_, hy⟩
          rw [List.getElem?_take, if_pos (Nat.mod_lt _ hp), List.getElem?_drop, Nat.mul_comm, Nat.div_add_mod] at hc
          exact hc
        · cases h
      · cases h
    · rename_i h1 h2
      split at h
      · rename_i ho
        injection h with h; subst h; subst ho
        obtain ⟨c, rfl⟩ := trod_single (fun fs hfs => h1 fs hfs) (fun n e hne => h2 n e hne) ht
        exact ⟨c, _, x, rfl, ht⟩
      · cases h
/-- What the leaf at o is. -/
def leafKind (P : Program) (t : TypeId) (o : Nat) : Option TypeDesc := (leafOf P 6 t o).bind P.underlying
variable {t : TypeId} {o fuel : Nat} {cs : List Value} {x : DataW H × List MemPlace}
theorem leaf_any {d : TypeDesc} (h : leafKind P t o = some d) (ht : DataW.trod enc P w base spare held fuel t cs = some x) : ∃ c u fuel' y, cs[o]? = some c ∧ P.underlying u = some d ∧ DataW.trod enc P w base spare held fuel' u [c] = some y := by
  unfold leafKind at h
  obtain ⟨u, h1, h2⟩ := Option.bind_eq_some_iff.1 h
  obtain ⟨c, fu, y, hc, hy⟩ := leaf_trod _ _ _ _ _ _ _ h1 ht
  exact ⟨c, u, fu, y, hc, h2, hy⟩
theorem leaf_u32 (h : leafKind P t o = some (.int .u32)) (ht : DataW.trod enc P w base spare held fuel t cs = some x) : ∃ n : Nat, cs[o]? = some (.int .u32 n) ∧ n < 4294967296 := by
  obtain ⟨c, u, fu, y, hc, hu, hy⟩ := leaf_any h ht
  obtain ⟨n, e, _, hw⟩ := DataW.trod_int hu hy
  injection e with e; subst e
  simp [Lit.wf, IntKind.min, IntKind.max, IntKind.signed, IntKind.bits] at hw
  obtain ⟨m, rfl⟩ := Int.eq_ofNat_of_zero_le hw.1
  exact ⟨m, hc, by omega⟩
theorem leaf_u64 (h : leafKind P t o = some (.int .u64)) (ht : DataW.trod enc P w base spare held fuel t cs = some x) : ∃ n : Nat, cs[o]? = some (.int .u64 n) ∧ n < 18446744073709551616 := by
  obtain ⟨c, u, fu, y, hc, hu, hy⟩ := leaf_any h ht
  obtain ⟨n, e, _, hw⟩ := DataW.trod_int hu hy
  injection e with e; subst e
  simp [Lit.wf, IntKind.min, IntKind.max, IntKind.signed, IntKind.bits] at hw
  obtain ⟨m, rfl⟩ := Int.eq_ofNat_of_zero_le hw.1
  exact ⟨m, hc, by omega⟩
theorem leaf_u8 (h : leafKind P t o = some (.int .u8)) (ht : DataW.trod enc P w base spare held fuel t cs = some x) : ∃ n : UInt8, cs[o]? = some (.int .u8 n.toNat) := by
  obtain ⟨c, u, fu, y, hc, hu, hy⟩ := leaf_any h ht
  obtain ⟨n, e, _, hw⟩ := DataW.trod_int hu hy
  injection e with e; subst e
  simp [Lit.wf, IntKind.min, IntKind.max, IntKind.signed, IntKind.bits] at hw
  obtain ⟨m, rfl⟩ := Int.eq_ofNat_of_zero_le hw.1
  refine ⟨UInt8.ofNat m, ?_⟩
  rw [hc, UInt8.toNat_ofNat', Nat.mod_eq_of_lt (by omega)]
theorem leaf_bool (h : leafKind P t o = some .bool) (ht : DataW.trod enc P w base spare held fuel t cs = some x) : ∃ b : Bool, cs[o]? = some (.bool b) := by
  obtain ⟨c, u, fu, y, hc, hu, hy⟩ := leaf_any h ht
  cases fu with
  | zero => simp [DataW.trod] at hy
  | succ n =>
    unfold DataW.trod at hy
    rw [hu] at hy
    split at hy <;> simp_all
theorem leaf_string (h : leafKind P t o = some .string) (ht : DataW.trod enc P w base spare held fuel t cs = some x) : ∃ s : ByteArray, cs[o]? = some (.string s) ∧ s.size ≤ maxLen := by
  obtain ⟨c, u, fu, y, hc, hu, hy⟩ := leaf_any h ht
  obtain ⟨s, e, _, hs⟩ := DataW.trod_string hu hy
  injection e with e; subst e
  exact ⟨s, hc, hs⟩
end
section
variable {H : Type} {enc : TypeId × Value → H} {w : World} {base b0 : Nat} {spare : Nat → Bool} {held : Bool} {r : Reach} {v : Value} {d : DataW H} {p : List MemPlace}
set_option maxRecDepth 100000 in
theorem open_attrs (hv : Value.okWide Tryd.prog w r b0 28 v) (h : DataW.Trod enc Tryd.prog w base spare held 28 v d p) : ∃ a : At, a.wf ∧ v = eAttrs a := by
  obtain ⟨cs, rfl, hsz⟩ := okWide_struct Tryd.underlying28 hv
  obtain ⟨fuel, hf⟩ := h
  have hl : cs.toList.length = 14 := by rw [Array.length_toList, hsz]; kernel_rfl
  obtain ⟨a0, e0, w0⟩ := leaf_u32 (o := 0) (by kernel_rfl) hf
  obtain ⟨a1, e1, w1⟩ := leaf_u32 (o := 1) (by kernel_rfl) hf
  obtain ⟨a2, e2, w2⟩ := leaf_u32 (o := 2) (by kernel_rfl) hf
  obtain ⟨a3, e3, w3⟩ := leaf_u32 (o := 3) (by kernel_rfl) hf
  obtain ⟨a4, e4, w4⟩ := leaf_u32 (o := 4) (by kernel_rfl) hf
  obtain ⟨a5, e5, w5⟩ := leaf_u64 (o := 5) (by kernel_rfl) hf
  obtain ⟨a6, e6, w6⟩ := leaf_u64 (o := 6) (by kernel_rfl) hf
  obtain ⟨a7, e7, w7⟩ := leaf_u64 (o := 7) (by kernel_rfl) hf
  obtain ⟨a8, e8, w8⟩ := leaf_u32 (o := 8) (by kernel_rfl) hf
  obtain ⟨a9, e9, w9⟩ := leaf_u32 (o := 9) (by kernel_rfl) hf
  obtain ⟨a10, e10, w10⟩ := leaf_u32 (o := 10) (by kernel_rfl) hf
  obtain ⟨a11, e11, w11⟩ := leaf_u32 (o := 11) (by kernel_rfl) hf
  obtain ⟨a12, e12, w12⟩ := leaf_u32 (o := 12) (by kernel_rfl) hf
  obtain ⟨a13, e13, w13⟩ := leaf_u32 (o := 13) (by kernel_rfl) hf
  refine ⟨⟨a0, a1, a2, a3, a4, a5, a6, a7, ⟨a8, a9⟩, ⟨a10, a11⟩, ⟨a12, a13⟩⟩, ⟨fun k => ?_, w5, w6, w7, ⟨w8, w9⟩, ⟨w10, w11⟩, ⟨w12, w13⟩⟩, ?_⟩
  · match k with
    | 0 => exact w0
    | 1 => exact w1
    | 2 => exact w2
    | 3 => exact w3
    | 4 => exact w4
    | k + 5 => simp [At.head]
  · unfold eAttrs
    refine congrArg Value.agg (Array.ext' (List.ext_getElem? fun i => ?_))
    match i with
    | 0 => exact e0
    | 1 => exact e1
    | 2 => exact e2
    | 3 => exact e3
    | 4 => exact e4
    | 5 => exact e5
    | 6 => exact e6
    | 7 => exact e7
    | 8 => exact e8
    | 9 => exact e9
    | 10 => exact e10
    | 11 => exact e11
    | 12 => exact e12
    | 13 => exact e13
    | k + 14 => rw [List.getElem?_eq_none (by omega), List.getElem?_eq_none (by simp [At.cells])]
set_option maxRecDepth 100000 in
theorem open_weak (hv : Value.okWide Tryd.prog w r b0 30 v) (h : DataW.Trod enc Tryd.prog w base spare held 30 v d p) : ∃ s : Wk, s.wf ∧ v = eWeak s := by
  obtain ⟨cs, rfl, hsz⟩ := okWide_struct Tryd.underlying30 hv
  obtain ⟨fuel, hf⟩ := h
  have hl : cs.toList.length = 21 := by rw [Array.length_toList, hsz]; kernel_rfl
  obtain ⟨a0, e0⟩ := leaf_bool (o := 0) (by kernel_rfl) hf
  obtain ⟨a1, e1, w1⟩ := leaf_u64 (o := 1) (by kernel_rfl) hf
  obtain ⟨a2, e2, w2⟩ := leaf_u32 (o := 2) (by kernel_rfl) hf
  obtain ⟨a3, e3, w3⟩ := leaf_u32 (o := 3) (by kernel_rfl) hf
  obtain ⟨a4, e4, w4⟩ := leaf_u32 (o := 4) (by kernel_rfl) hf
  obtain ⟨a5, e5, w5⟩ := leaf_u32 (o := 5) (by kernel_rfl) hf
  obtain ⟨a6, e6⟩ := leaf_bool (o := 6) (by kernel_rfl) hf
  obtain ⟨b0, f0, v0⟩ := leaf_u32 (o := 7) (by kernel_rfl) hf
  obtain ⟨b1, f1, v1⟩ := leaf_u32 (o := 8) (by kernel_rfl) hf
  obtain ⟨b2, f2, v2⟩ := leaf_u32 (o := 9) (by kernel_rfl) hf
  obtain ⟨b3, f3, v3⟩ := leaf_u32 (o := 10) (by kernel_rfl) hf
  obtain ⟨b4, f4, v4⟩ := leaf_u32 (o := 11) (by kernel_rfl) hf
  obtain ⟨b5, f5, v5⟩ := leaf_u64 (o := 12) (by kernel_rfl) hf
  obtain ⟨b6, f6, v6⟩ := leaf_u64 (o := 13) (by kernel_rfl) hf
  obtain ⟨b7, f7, v7⟩ := leaf_u64 (o := 14) (by kernel_rfl) hf
  obtain ⟨b8, f8, v8⟩ := leaf_u32 (o := 15) (by kernel_rfl) hf
  obtain ⟨b9, f9, v9⟩ := leaf_u32 (o := 16) (by kernel_rfl) hf
  obtain ⟨b10, f10, v10⟩ := leaf_u32 (o := 17) (by kernel_rfl) hf
  obtain ⟨b11, f11, v11⟩ := leaf_u32 (o := 18) (by kernel_rfl) hf
  obtain ⟨b12, f12, v12⟩ := leaf_u32 (o := 19) (by kernel_rfl) hf
  obtain ⟨b13, f13, v13⟩ := leaf_u32 (o := 20) (by kernel_rfl) hf
  refine ⟨⟨a0, a1, ⟨a2, a3⟩, ⟨a4, a5⟩, a6, ⟨b0, b1, b2, b3, b4, b5, b6, b7, ⟨b8, b9⟩, ⟨b10, b11⟩, ⟨b12, b13⟩⟩⟩, ⟨w1, ⟨w2, w3⟩, ⟨w4, w5⟩, ⟨fun k => ?_, v5, v6, v7, ⟨v8, v9⟩, ⟨v10, v11⟩, ⟨v12, v13⟩⟩⟩, ?_⟩
  · match k with
    | 0 => exact v0
    | 1 => exact v1
    | 2 => exact v2
    | 3 => exact v3
    | 4 => exact v4
    | k + 5 => simp [At.head]
  · unfold eWeak
    refine congrArg Value.agg (Array.ext' (List.ext_getElem? fun i => ?_))
    match i with
    | 0 => exact e0
    | 1 => exact e1
    | 2 => exact e2
    | 3 => exact e3
    | 4 => exact e4
    | 5 => exact e5
    | 6 => exact e6
    | 7 => exact f0
    | 8 => exact f1
    | 9 => exact f2
    | 10 => exact f3
    | 11 => exact f4
    | 12 => exact f5
    | 13 => exact f6
    | 14 => exact f7
    | 15 => exact f8
    | 16 => exact f9
    | 17 => exact f10
    | 18 => exact f11
    | 19 => exact f12
    | 20 => exact f13
    | k + 21 => rw [List.getElem?_eq_none (by omega), List.getElem?_eq_none (by simp [Wk.cells])]
end
end Go.Proofs.YtkaapdnjlmceoabDoor
namespace Go.Proofs.YtkaapdnjlmceoabDoor
open Go.ChangeShapes Go.WideShapes Go.ChangeAt Go.RowKit
section
variable {H : Type} {enc : TypeId × Value → H} {P : Program} {w : World} {base b0 : Nat} {spare : Nat → Bool} {held : Bool} {r : Reach} {t : TypeId} {v : Value} {d : DataW H} {p : List MemPlace}
theorem open_nat {k : IntKind} {m : Nat} (hu : P.underlying t = some (.int k)) (hk : ∀ n : Int, (Lit.int k n).wf = true → 0 ≤ n ∧ n ≤ (m : Int) - 1) (hv : Value.okWide P w r b0 t v) (h : DataW.Trod enc P w base spare held t v d p) : ∃ n : Nat, n < m ∧ v = .int k n := by
  obtain ⟨x, rfl, _, _, wx⟩ := open_int hu hv h
  obtain ⟨h0, h1⟩ := hk x wx
  obtain ⟨y, rfl⟩ := Int.eq_ofNat_of_zero_le h0
  exact ⟨y, by omega, rfl⟩
theorem open_u8 (hu : P.underlying t = some (.int .u8)) (hv : Value.okWide P w r b0 t v) (h : DataW.Trod enc P w base spare held t v d p) : ∃ n : Nat, n < 256 ∧ v = .int .u8 n :=
  open_nat hu (fun n hn => by simp [Lit.wf, IntKind.min, IntKind.max, IntKind.signed, IntKind.bits] at hn; omega) hv h
theorem open_u16 (hu : P.underlying t = some (.int .u16)) (hv : Value.okWide P w r b0 t v) (h : DataW.Trod enc P w base spare held t v d p) : ∃ n : Nat, n < 65536 ∧ v = .int .u16 n :=
  open_nat hu (fun n hn => by simp [Lit.wf, IntKind.min, IntKind.max, IntKind.signed, IntKind.bits] at hn; omega) hv h
theorem open_u32 (hu : P.underlying t = some (.int .u32)) (hv : Value.okWide P w r b0 t v) (h : DataW.Trod enc P w base spare held t v d p) : ∃ n : Nat, n < 4294967296 ∧ v = .int .u32 n :=
  open_nat hu (fun n hn => by simp [Lit.wf, IntKind.min, IntKind.max, IntKind.signed, IntKind.bits] at hn; omega) hv h
theorem open_u64 (hu : P.underlying t = some (.int .u64)) (hv : Value.okWide P w r b0 t v) (h : DataW.Trod enc P w base spare held t v d p) : ∃ n : Nat, n < 18446744073709551616 ∧ v = .int .u64 n :=
  open_nat hu (fun n hn => by simp [Lit.wf, IntKind.min, IntKind.max, IntKind.signed, IntKind.bits] at hn; omega) hv h
theorem open_bytes {e : TypeId} (hu : P.underlying t = some (.slice e)) (he : P.underlying e = some (.int .u8)) (hc : P.cellsOf e = 1) (hv : Value.okWide P w r b0 t v) (h : DataW.Trod enc P w base (fun _ => true) held t v d p) :
    ∃ (A : Option Addr) (l c : Nat) (xs : List UInt8), v = .slice A l c ∧ Bs w A l xs ∧ l ≤ c ∧ (A = none → c = 0) := by
  obtain ⟨a0, len0, cap0, rfl⟩ := okWide_slice hu hv
  obtain ⟨fuel, hf⟩ := h
  rcases open_ints hu he hc hf with ⟨hcs, _⟩ | ⟨x, l, c, zs, hcs, _, hl, hm, hz, _, hcell, hwz⟩
  · simp [Value.cells] at hcs
    obtain ⟨rfl, rfl, rfl⟩ := hcs
    exact ⟨_, _, _, [], rfl, Bs.nil _ _, Nat.le_refl _, fun _ => rfl⟩
  · simp [Value.cells] at hcs
    obtain ⟨rfl, rfl, rfl⟩ := hcs
    exact ⟨_, _, _, _, rfl, Bs.of_row hl hm (by simpa using hz) hcell hwz, hl, fun h => by cases h⟩
end
end Go.Proofs.YtkaapdnjlmceoabDoor

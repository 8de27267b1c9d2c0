/- What comes in as records and rows with bytes and texts in them, opened for the rows of chapter 11. Printed by gen_arrows.py. -/
import Derived.Test.YtgmhapjidbdhnaaGreatArRowW
import Derived.Test.YtgmhapjidbdhnaaGreatJQ
set_option linter.unusedVariables false
namespace Go.Proofs.YtgmhapjidbdhnaaGreat
open Go.ChangeShapes Go.WideShapes Go.ChangeAt Go.RowKit
section
variable {H : Type} {enc : TypeId × Value → H} {P : Program} {w : World} {r : Reach} {b0 base o fuel : Nat} {t e u : TypeId} {held : Bool} {cs : Array Value} {x : DataW H × List MemPlace}
theorem okWide_rowS {v : Value} {fs : Array Field} (ht : P.underlying t = some (.struct fs)) (h : Value.okWide P w r b0 t v) : ∃ cs, v = .agg cs ∧ cs.size = P.cellsOf t ∧ Row.okWide P w r b0 t cs := by
  simp only [Value.okWide, ht] at h
  exact h
theorem okWide_rowA {v : Value} {n : Nat} (ht : P.underlying t = some (.array n e)) (h : Value.okWide P w r b0 t v) : ∃ cs, v = .agg cs ∧ cs.size = P.cellsOf t ∧ Row.okWide P w r b0 t cs := by
  simp only [Value.okWide, ht] at h
  exact h
theorem leaf_rd (hu : P.underlying u = some (.slice e)) (he : P.underlying e = some (.int .u8)) (hc : P.cellsOf e = 1) (hl : leafOf P 6 t o = some u) (hts : (P.cellTypes P.depth t).map (fun ts => (ts[o]?, decide (o < ts.length))) = some (some u, true)) (hrow : Row.okWide P w r b0 t cs)
    (ht : DataW.trod enc P w base (fun _ => true) held fuel t cs.toList = some x) : ∃ (v : Value) (xs : List UInt8), cs.toList[o]? = some v ∧ Rd w v xs := by
  obtain ⟨c, fu, y, hco, hy⟩ := leaf_trod _ _ _ _ _ _ _ hl ht
  obtain ⟨ts, h1, _, h3⟩ := hrow
  rw [h1] at hts
  simp only [Option.map_some, Option.some.injEq, Prod.mk.injEq, decide_eq_true_eq] at hts
  obtain ⟨u', h4, h5⟩ := h3 o c (by rw [← Array.getElem?_toList]; exact hco)
  rw [Nat.mod_eq_of_lt hts.2, hts.1] at h4
  injection h4 with h4
  subst h4
  have hv : Value.okWide P w r b0 u c := by simp only [Value.okWide, hu]; exact h5
  obtain ⟨A, l, k, rfl⟩ := okWide_slice hu hv
  obtain ⟨A', l', k', xs, e1, hr, _⟩ := open_rd (base := base) (held := held) (d := y.1) (p := y.2) hu he hc hv ⟨fu, by simpa [Value.cells] using hy⟩
  exact ⟨_, xs, hco, e1 ▸ hr⟩
theorem leaf_str {spare : Nat → Bool} (h : leafKind P t o = some .string) (ht : DataW.trod enc P w base spare held fuel t cs.toList = some x) : ∃ xs : List UInt8, cs.toList[o]? = some (strV xs) := by
  obtain ⟨s, hs, _⟩ := leaf_string h ht
  refine ⟨s.data.toList, hs.trans ?_⟩
  cases s
  simp [strV]
end
section
variable {H : Type} {enc : TypeId × Value → H} {w : World} {base b0 : Nat} {held : Bool} {r : Reach} {v : Value} {d : DataW H} {p : List MemPlace}
set_option maxRecDepth 100000 in
set_option maxHeartbeats 1000000 in
theorem open_args (hv : Value.okWide Tryz.prog w r b0 33 v) (h : DataW.Trod enc Tryz.prog w base (fun _ => true) held 33 v d p) : ∃ (a : Ar) (v1 v2 v3 : Value), ArWf a ∧ Rd w v1 a.h ∧ Rd w v2 a.h2 ∧ Rd w v3 a.data ∧ v = .agg (arC v1 v2 v3 a).toArray := by
  obtain ⟨cs, rfl, hsz, hrow⟩ := okWide_rowS Tryz.underlying33 hv
  obtain ⟨fuel, hf⟩ := h
  have hf : DataW.trod enc Tryz.prog w base (fun _ => true) held fuel 33 cs.toList = some (d, p) := hf
  have hl : cs.toList.length = 40 := by rw [Array.length_toList, hsz]; kernel_rfl
  obtain ⟨a0, e0, w0⟩ := leaf_u32 (o := 0) (by kernel_rfl) hf
  obtain ⟨v1, a1, e1, w1⟩ := leaf_rd (o := 1) Tryz.underlying24 Tryz.underlying5 (by kernel_rfl) (by kernel_rfl) (by kernel_rfl) hrow hf
  obtain ⟨a2, e2⟩ := leaf_str (o := 2) (by kernel_rfl) hf
  obtain ⟨v3, a3, e3, w3⟩ := leaf_rd (o := 3) Tryz.underlying24 Tryz.underlying5 (by kernel_rfl) (by kernel_rfl) (by kernel_rfl) hrow hf
  obtain ⟨a4, e4⟩ := leaf_str (o := 4) (by kernel_rfl) hf
  obtain ⟨a5, e5⟩ := leaf_bool (o := 5) (by kernel_rfl) hf
  obtain ⟨a6, e6, w6⟩ := leaf_u32 (o := 6) (by kernel_rfl) hf
  obtain ⟨a7, e7⟩ := leaf_bool (o := 7) (by kernel_rfl) hf
  obtain ⟨a8, e8, w8⟩ := leaf_u32 (o := 8) (by kernel_rfl) hf
  obtain ⟨a9, e9⟩ := leaf_bool (o := 9) (by kernel_rfl) hf
  obtain ⟨a10, e10, w10⟩ := leaf_u32 (o := 10) (by kernel_rfl) hf
  obtain ⟨a11, e11⟩ := leaf_bool (o := 11) (by kernel_rfl) hf
  obtain ⟨a12, e12, w12⟩ := leaf_u64 (o := 12) (by kernel_rfl) hf
  obtain ⟨a13, e13, w13⟩ := leaf_u32 (o := 13) (by kernel_rfl) hf
  obtain ⟨a14, e14, w14⟩ := leaf_u32 (o := 14) (by kernel_rfl) hf
  obtain ⟨a15, e15, w15⟩ := leaf_u32 (o := 15) (by kernel_rfl) hf
  obtain ⟨a16, e16, w16⟩ := leaf_u32 (o := 16) (by kernel_rfl) hf
  obtain ⟨a17, e17, w17⟩ := leaf_u32 (o := 17) (by kernel_rfl) hf
  obtain ⟨a18, e18, w18⟩ := leaf_u32 (o := 18) (by kernel_rfl) hf
  obtain ⟨a19, e19⟩ := leaf_bool (o := 19) (by kernel_rfl) hf
  obtain ⟨a20, e20, w20⟩ := leaf_u32 (o := 20) (by kernel_rfl) hf
  obtain ⟨a21, e21, w21⟩ := leaf_u32 (o := 21) (by kernel_rfl) hf
  obtain ⟨a22, e22, w22⟩ := leaf_u32 (o := 22) (by kernel_rfl) hf
  obtain ⟨a23, e23, w23⟩ := leaf_u64 (o := 23) (by kernel_rfl) hf
  obtain ⟨a24, e24, w24⟩ := leaf_u32 (o := 24) (by kernel_rfl) hf
  obtain ⟨a25, e25, w25⟩ := leaf_u32 (o := 25) (by kernel_rfl) hf
  obtain ⟨a26, e26, w26⟩ := leaf_u32 (o := 26) (by kernel_rfl) hf
  obtain ⟨v27, a27, e27, w27⟩ := leaf_rd (o := 27) Tryz.underlying24 Tryz.underlying5 (by kernel_rfl) (by kernel_rfl) (by kernel_rfl) hrow hf
  obtain ⟨a28, e28⟩ := leaf_str (o := 28) (by kernel_rfl) hf
  obtain ⟨a29, e29, w29⟩ := leaf_u32 (o := 29) (by kernel_rfl) hf
  obtain ⟨a30, e30, w30⟩ := leaf_u32 (o := 30) (by kernel_rfl) hf
  obtain ⟨a31, e31⟩ := leaf_u8 (o := 31) (by kernel_rfl) hf
  obtain ⟨a32, e32⟩ := leaf_u8 (o := 32) (by kernel_rfl) hf
  obtain ⟨a33, e33⟩ := leaf_u8 (o := 33) (by kernel_rfl) hf
  obtain ⟨a34, e34⟩ := leaf_u8 (o := 34) (by kernel_rfl) hf
  obtain ⟨a35, e35⟩ := leaf_u8 (o := 35) (by kernel_rfl) hf
  obtain ⟨a36, e36⟩ := leaf_u8 (o := 36) (by kernel_rfl) hf
  obtain ⟨a37, e37⟩ := leaf_u8 (o := 37) (by kernel_rfl) hf
  obtain ⟨a38, e38⟩ := leaf_u8 (o := 38) (by kernel_rfl) hf
  obtain ⟨a39, e39, w39⟩ := leaf_u64 (o := 39) (by kernel_rfl) hf
  clear hrow hf hsz
  refine ⟨⟨a0, a1, a2, a3, a4, ⟨a5, a6, a7, a8, a9, a10, a11, a12, a13, ⟨a14, a15⟩, a16, ⟨a17, a18⟩⟩, a19, ⟨a20, a21⟩, a22, a23, a24, a25, a26, a27, a28, a29, a30, [a31, a32, a33, a34, a35, a36, a37, a38], a39⟩, v1, v3, v27, ⟨w0, ⟨w6, w8, w10, w12, w13, ⟨w14, w15⟩, w16, ⟨w17, w18⟩⟩, ⟨w20, w21⟩, w22, w23, w24, w25, w26, w29, w30, rfl, w39⟩, w1, w3, w27, ?_⟩
  refine congrArg Value.agg (Array.ext' (List.ext_getElem? fun i => ?_))
  match i with
  | 0 => exact e0
  | 1 => exact e1
  | 2 => exact e2
  | 3 => exact e3
  | 4 => exact e4
  | 5 => exact e5
  | 6 => exact e6
  | 7 => exact e7
  | 8 => exact e8
  | 9 => exact e9
  | 10 => exact e10
  | 11 => exact e11
  | 12 => exact e12
  | 13 => exact e13
  | 14 => exact e14
  | 15 => exact e15
  | 16 => exact e16
  | 17 => exact e17
  | 18 => exact e18
  | 19 => exact e19
  | 20 => exact e20
  | 21 => exact e21
  | 22 => exact e22
  | 23 => exact e23
  | 24 => exact e24
  | 25 => exact e25
  | 26 => exact e26
  | 27 => exact e27
  | 28 => exact e28
  | 29 => exact e29
  | 30 => exact e30
  | 31 => exact e31
  | 32 => exact e32
  | 33 => exact e33
  | 34 => exact e34
  | 35 => exact e35
  | 36 => exact e36
  | 37 => exact e37
  | 38 => exact e38
  | 39 => exact e39
  | i + 40 => rw [List.getElem?_eq_none (by omega)]; exact (List.getElem?_eq_none (by show 40 ≤ i + 40; omega)).symm
set_option maxRecDepth 100000 in
set_option maxHeartbeats 1000000 in
theorem open_slices2 (hv : Value.okWide Tryz.prog w r b0 57 v) (h : DataW.Trod enc Tryz.prog w base (fun _ => true) held 57 v d p) : ∃ (v1 v2 : Value) (xs ys : List UInt8), Rd w v1 xs ∧ Rd w v2 ys ∧ v = .agg #[v1, v2] := by
  obtain ⟨cs, rfl, hsz, hrow⟩ := okWide_rowA Tryz.underlying57 hv
  obtain ⟨fuel, hf⟩ := h
  have hf : DataW.trod enc Tryz.prog w base (fun _ => true) held fuel 57 cs.toList = some (d, p) := hf
  have hl : cs.toList.length = 2 := by rw [Array.length_toList, hsz]; kernel_rfl
  obtain ⟨v0, a0, e0, w0⟩ := leaf_rd (o := 0) Tryz.underlying24 Tryz.underlying5 (by kernel_rfl) (by kernel_rfl) (by kernel_rfl) hrow hf
  obtain ⟨v1, a1, e1, w1⟩ := leaf_rd (o := 1) Tryz.underlying24 Tryz.underlying5 (by kernel_rfl) (by kernel_rfl) (by kernel_rfl) hrow hf
  clear hrow hf hsz
  refine ⟨v0, v1, a0, a1, w0, w1, ?_⟩
  refine congrArg Value.agg (Array.ext' (List.ext_getElem? fun i => ?_))
  match i with
  | 0 => exact e0
  | 1 => exact e1
  | i + 2 => rw [List.getElem?_eq_none (by omega)]; exact (List.getElem?_eq_none (by show 2 ≤ i + 2; omega)).symm
set_option maxRecDepth 100000 in
set_option maxHeartbeats 1000000 in
theorem open_strs2 (hv : Value.okWide Tryz.prog w r b0 58 v) (h : DataW.Trod enc Tryz.prog w base (fun _ => true) held 58 v d p) : ∃ xs ys : List UInt8, v = .agg #[strV xs, strV ys] := by
  obtain ⟨cs, rfl, hsz, hrow⟩ := okWide_rowA Tryz.underlying58 hv
  obtain ⟨fuel, hf⟩ := h
  have hf : DataW.trod enc Tryz.prog w base (fun _ => true) held fuel 58 cs.toList = some (d, p) := hf
  have hl : cs.toList.length = 2 := by rw [Array.length_toList, hsz]; kernel_rfl
  obtain ⟨a0, e0⟩ := leaf_str (o := 0) (by kernel_rfl) hf
  obtain ⟨a1, e1⟩ := leaf_str (o := 1) (by kernel_rfl) hf
  clear hrow hf hsz
  refine ⟨a0, a1, ?_⟩
  refine congrArg Value.agg (Array.ext' (List.ext_getElem? fun i => ?_))
  match i with
  | 0 => exact e0
  | 1 => exact e1
  | i + 2 => rw [List.getElem?_eq_none (by omega)]; exact (List.getElem?_eq_none (by show 2 ≤ i + 2; omega)).symm
set_option maxRecDepth 100000 in
set_option maxHeartbeats 1000000 in
theorem open_u32s3 (hv : Value.okWide Tryz.prog w r b0 59 v) (h : DataW.Trod enc Tryz.prog w base (fun _ => true) held 59 v d p) : ∃ a b c : Nat, a < 4294967296 ∧ b < 4294967296 ∧ c < 4294967296 ∧ v = .agg #[.int .u32 (a : Int), .int .u32 (b : Int), .int .u32 (c : Int)] := by
  obtain ⟨cs, rfl, hsz, hrow⟩ := okWide_rowA Tryz.underlying59 hv
  obtain ⟨fuel, hf⟩ := h
  have hf : DataW.trod enc Tryz.prog w base (fun _ => true) held fuel 59 cs.toList = some (d, p) := hf
  have hl : cs.toList.length = 3 := by rw [Array.length_toList, hsz]; kernel_rfl
  obtain ⟨a0, e0, w0⟩ := leaf_u32 (o := 0) (by kernel_rfl) hf
  obtain ⟨a1, e1, w1⟩ := leaf_u32 (o := 1) (by kernel_rfl) hf
  obtain ⟨a2, e2, w2⟩ := leaf_u32 (o := 2) (by kernel_rfl) hf
  clear hrow hf hsz
  refine ⟨a0, a1, a2, w0, w1, w2, ?_⟩
  refine congrArg Value.agg (Array.ext' (List.ext_getElem? fun i => ?_))
  match i with
  | 0 => exact e0
  | 1 => exact e1
  | 2 => exact e2
  | i + 3 => rw [List.getElem?_eq_none (by omega)]; exact (List.getElem?_eq_none (by show 3 ≤ i + 3; omega)).symm
set_option maxRecDepth 100000 in
set_option maxHeartbeats 1000000 in
theorem open_verf (hv : Value.okWide Tryz.prog w r b0 31 v) (h : DataW.Trod enc Tryz.prog w base (fun _ => true) held 31 v d p) : ∃ xs : List UInt8, xs.length = 8 ∧ v = .agg (encV xs).toArray := by
  obtain ⟨cs, rfl, hsz, hrow⟩ := okWide_rowA Tryz.underlying31 hv
  obtain ⟨fuel, hf⟩ := h
  have hf : DataW.trod enc Tryz.prog w base (fun _ => true) held fuel 31 cs.toList = some (d, p) := hf
  have hl : cs.toList.length = 8 := by rw [Array.length_toList, hsz]; kernel_rfl
  obtain ⟨a0, e0⟩ := leaf_u8 (o := 0) (by kernel_rfl) hf
  obtain ⟨a1, e1⟩ := leaf_u8 (o := 1) (by kernel_rfl) hf
  obtain ⟨a2, e2⟩ := leaf_u8 (o := 2) (by kernel_rfl) hf
  obtain ⟨a3, e3⟩ := leaf_u8 (o := 3) (by kernel_rfl) hf
  obtain ⟨a4, e4⟩ := leaf_u8 (o := 4) (by kernel_rfl) hf
  obtain ⟨a5, e5⟩ := leaf_u8 (o := 5) (by kernel_rfl) hf
  obtain ⟨a6, e6⟩ := leaf_u8 (o := 6) (by kernel_rfl) hf
  obtain ⟨a7, e7⟩ := leaf_u8 (o := 7) (by kernel_rfl) hf
  clear hrow hf hsz
  refine ⟨[a0, a1, a2, a3, a4, a5, a6, a7], rfl, ?_⟩
  refine congrArg Value.agg (Array.ext' (List.ext_getElem? fun i => ?_))
  match i with
  | 0 => exact e0
  | 1 => exact e1
  | 2 => exact e2
  | 3 => exact e3
  | 4 => exact e4
  | 5 => exact e5
  | 6 => exact e6
  | 7 => exact e7
  | i + 8 => rw [List.getElem?_eq_none (by omega)]; exact (List.getElem?_eq_none (by show 8 ≤ i + 8; omega)).symm
end
end Go.Proofs.YtgmhapjidbdhnaaGreat

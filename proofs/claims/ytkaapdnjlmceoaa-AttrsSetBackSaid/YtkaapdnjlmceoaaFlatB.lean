/- Numbers and bytes that came in. -/
import Derived.Test.YtkaapdnjlmceoaaFlat
set_option linter.unusedVariables false
set_option linter.unusedSimpArgs false
namespace Go.Proofs.Ytkaapdnjlmceoaa
open Go.ChangeShapes Go.WideShapes Go.ChangeAt Go.RowKit
section
variable {H : Type} {enc : TypeId × Value → H} {P : Program} {w : World} {base b0 : Nat} {spare : Nat → Bool} {held : Bool} {r : Reach} {t : TypeId} {v : Value} {d : DataW H} {p : List MemPlace}
theorem open_nat {k : IntKind} {m : Nat} (hu : P.underlying t = some (.int k)) (hk : ∀ n : Int, (Lit.int k n).wf = true → 0 ≤ n ∧ n ≤ (m : Int) - 1) (hv : Value.okWide P w r b0 t v) (h : DataW.Trod enc P w base spare held t v d p) : ∃ n : Nat, n < m ∧ v = .int k n := by
  obtain ⟨x, rfl, _, _, wx⟩ := open_int hu hv h
  obtain ⟨h0, h1⟩ := hk x wx
  obtain ⟨y, rfl⟩ := Int.eq_ofNat_of_zero_le h0
  exact ⟨y, by omega, rfl⟩
theorem open_u8 (hu : P.underlying t = some (.int .u8)) (hv : Value.okWide P w r b0 t v) (h : DataW.Trod enc P w base spare held t v d p) : ∃ n : Nat, n < 256 ∧ v = .int .u8 n :=
  open_nat hu (fun n hn => by simp [Lit.wf, IntKind.min, IntKind.max, IntKind.signed, IntKind.bits] at hn; omega) hv h
theorem open_u16 (hu : P.underlying t = some (.int .u16)) (hv : Value.okWide P w r b0 t v) (h : DataW.Trod enc P w base spare held t v d p) : ∃ n : Nat, n < 65536 ∧ v = .int .u16 n :=
  open_nat hu (fun n hn => by simp [Lit.wf, IntKind.min, IntKind.max, IntKind.signed, IntKind.bits] at hn; omega) hv h
theorem open_u32 (hu : P.underlying t = some (.int .u32)) (hv : Value.okWide P w r b0 t v) (h : DataW.Trod enc P w base spare held t v d p) : ∃ n : Nat, n < 4294967296 ∧ v = .int .u32 n :=
  open_nat hu (fun n hn => by simp [Lit.wf, IntKind.min, IntKind.max, IntKind.signed, IntKind.bits] at hn; omega) hv h
theorem open_u64 (hu : P.underlying t = some (.int .u64)) (hv : Value.okWide P w r b0 t v) (h : DataW.Trod enc P w base spare held t v d p) : ∃ n : Nat, n < 18446744073709551616 ∧ v = .int .u64 n :=
  open_nat hu (fun n hn => by simp [Lit.wf, IntKind.min, IntKind.max, IntKind.signed, IntKind.bits] at hn; omega) hv h
theorem open_bytes {e : TypeId} (hu : P.underlying t = some (.slice e)) (he : P.underlying e = some (.int .u8)) (hc : P.cellsOf e = 1) (hv : Value.okWide P w r b0 t v) (h : DataW.Trod enc P w base (fun _ => true) held t v d p) :
    ∃ (A : Option Addr) (l c : Nat) (xs : List UInt8), v = .slice A l c ∧ Bs w A l xs ∧ l ≤ c ∧ (A = none → c = 0) := by
  obtain ⟨a0, len0, cap0, rfl⟩ := okWide_slice hu hv
  obtain ⟨fuel, hf⟩ := h
  rcases open_ints hu he hc hf with ⟨hcs, _⟩ | ⟨x, l, c, zs, hcs, _, hl, hm, hz, _, hcell, hwz⟩
  · simp [Value.cells] at hcs
    obtain ⟨rfl, rfl, rfl⟩ := hcs
    exact ⟨_, _, _, [], rfl, Bs.nil _ _, Nat.le_refl _, fun _ => rfl⟩
  · simp [Value.cells] at hcs
    obtain ⟨rfl, rfl, rfl⟩ := hcs
    exact ⟨_, _, _, _, rfl, Bs.of_row hl hm (by simpa using hz) hcell hwz, hl, fun h => by cases h⟩
end
end Go.Proofs.Ytkaapdnjlmceoaa

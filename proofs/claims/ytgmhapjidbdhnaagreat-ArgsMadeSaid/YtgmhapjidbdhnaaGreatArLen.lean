/- What is put is not long. No program in sight. -/
import Derived.Test.YtgmhapjidbdhnaaGreatJI
set_option linter.unusedVariables false
set_option linter.unusedSimpArgs false
namespace Go.Proofs.YtgmhapjidbdhnaaGreat
open Go.RowKit
def LenP (a : Ar) (q : Pt) : Prop := ∀ c, q.wr a = .ok c → c.length ≤ 40000
theorem len_opq {m : Nat} {x : List UInt8} (hm : m ≤ 32768) : ∀ c, qOpq m x = .ok c → c.length ≤ 40000 := fun c h => by
  unfold qOpq at h
  split at h
  · injection h with h
    subst h
    rw [List.length_append, qCut_length]
    have : (put4 x.length).length = 4 := rfl
    unfold padN
    omega
  · cases h
theorem len_small {m n : Nat} : ∀ c, qSmall m n = .ok c → c.length ≤ 40000 := fun c h => by
  unfold qSmall at h
  split at h
  · injection h with h
    subst h
    exact Nat.le_of_ble_eq_true rfl
  · cases h
theorem len_set {s : St} : ∀ c, rSet s = .ok c → c.length ≤ 40000 := fun c h => by
  unfold rSet at h
  split at h
  · have := catP_len h 1000 (fun r hr c hc => (few_setL s r hr c hc).2)
    have h6 : (setL s).length = 6 := rfl
    omega
  · cases h
theorem len_seq {a : Ar} {l : List Pt} (h : ∀ q ∈ l, LenP a q) {c : List UInt8} (hc : seqW l a = .ok c) : c.length ≤ l.length * 40000 := by
  unfold seqW at hc
  have := catP_len hc 40000 (fun r hr c hc => by
    obtain ⟨q, hq, rfl⟩ := List.mem_map.1 hr
    exact h q hq c hc)
  rw [List.length_map] at this
  exact this
theorem len_if {a : Ar} {c : Ar → Bool} {q : Pt} (h : LenP a q) : LenP a (ifP c [q]) := fun b hb => by
  have hb : (if c a then seqW [q] a else .ok []) = .ok b := hb
  split at hb
  · have := len_seq (l := [q]) (fun p hp => by simp only [List.mem_singleton] at hp; subst hp; exact h) hb
    simpa using this
  · injection hb with hb
    subst hb
    simp
theorem len_parts {a : Ar} (hv : a.verf.length = 8) (p : Nat) : ∀ q ∈ partsOf p, LenP a q := by
  have a1 : LenP a ptH := len_opq (by decide)
  have a2 : LenP a ptH2 := len_opq (by decide)
  have a3 : LenP a ptName := len_opq (by decide)
  have a4 : LenP a ptName2 := len_opq (by decide)
  have a5 : LenP a ptTarget := len_opq (by decide)
  have a6 : LenP a ptData := len_opq (by decide)
  have a7 : LenP a ptSet := len_set
  have eight : ∀ n : Nat, ∀ c, q8 n = .ok c → c.length ≤ 40000 := fun n c h => by injection h with h; subst h; exact Nat.le_of_ble_eq_true rfl
  have four : ∀ n : Nat, ∀ c, q4 n = .ok c → c.length ≤ 40000 := fun n c h => by injection h with h; subst h; exact Nat.le_of_ble_eq_true rfl
  have a8 : LenP a ptOffset := eight _
  have a9 : LenP a ptCookie := eight _
  have b1 : LenP a ptCount := four _
  have b2 : LenP a ptBits := four _
  have b3 : LenP a ptMax := four _
  have b4 : LenP a ptKind := four _
  have b5 : LenP a ptVerf := fun c h => by
    have h : (Except.ok a.verf : Except Int (List UInt8)) = .ok c := h
    injection h with h; subst h; omega
  have b6 : LenP a ptGuard := fun c h => Nat.le_trans (few_time a.guard c h).2 (by decide)
  have b7 : LenP a ptYes := fun c h => by
    have h : (Except.ok (putYes a.hasGuard) : Except Int (List UInt8)) = .ok c := h
    injection h with h; subst h
    cases a.hasGuard <;> exact Nat.le_of_ble_eq_true rfl
  have b8 : LenP a ptStable := len_small
  have b9 : LenP a ptHow := len_small
  intro q hq
  unfold partsOf at hq
  split at hq <;> simp only [List.mem_cons, List.not_mem_nil, or_false] at hq <;>
    first
    | (subst hq; first | assumption | exact len_if (by assumption))
    | (rcases hq with rfl | rfl <;> first | assumption | exact len_if (by assumption))
    | (rcases hq with rfl | rfl | rfl <;> first | assumption | exact len_if (by assumption))
    | (rcases hq with rfl | rfl | rfl | rfl <;> first | assumption | exact len_if (by assumption))
    | (rcases hq with rfl | rfl | rfl | rfl | rfl <;> first | assumption | exact len_if (by assumption))
theorem parts_five (p : Nat) : (partsOf p).length ≤ 5 := by
  unfold partsOf
  split <;> exact Nat.le_of_ble_eq_true rfl
/-- What is put is of 200000 bytes at most. -/
theorem putA_len {a : Ar} {bs : List UInt8} (hv : a.verf.length = 8) (h : putA a = .ok bs) : bs.length ≤ 200000 := by
  obtain ⟨_, hs, _⟩ := putA_ok h
  have := len_seq (len_parts hv a.proc) hs
  have := parts_five a.proc
  omega
end Go.Proofs.YtgmhapjidbdhnaaGreat

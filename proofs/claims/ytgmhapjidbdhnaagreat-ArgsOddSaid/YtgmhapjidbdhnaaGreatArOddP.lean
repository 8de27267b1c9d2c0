/- What is none of a procedure's parts must be zero. No program in sight. -/
import Derived.Test.YtgmhapjidbdhnaaGreatJI
set_option linter.unusedVariables false
set_option linter.unusedSimpArgs false
namespace Go.Proofs.YtgmhapjidbdhnaaGreat
open Go.RowKit
/-- A part that leaves something as it was. -/
def KeepP {α : Type} (g : Ar → α) (q : Pt) : Prop := ∀ m xs x k, q.rd m xs = .ok (x, k) → g x = g m
theorem bind_ok {α β : Type} {p : Ps α} {f : α → Ps β} {xs : List UInt8} {y : β} {k : Nat} (h : Ps.bind p f xs = .ok (y, k)) : ∃ x i j, p xs = .ok (x, i) ∧ f x (xs.drop i) = .ok (y, j) := by
  unfold Ps.bind at h
  rcases e : p xs with e1 | ⟨x, i⟩
  · rw [e] at h; cases h
  · rw [e] at h
    dsimp only at h
    rcases e2 : f x (xs.drop i) with e1 | ⟨z, j⟩
    · rw [e2] at h; cases h
    · rw [e2] at h
      injection h with h; injection h with h1 h2
      subst h1
      exact ⟨x, i, j, rfl, e2⟩
theorem keep_field {α β : Type} {g : Ar → α} {p : Ps β} {q : β → Except Int (List UInt8)} {get : Ar → β} {set : β → Ar → Ar} (h : ∀ v m, g (set v m) = g m) : KeepP g (fieldP p q get set) := by
  intro m xs x k he
  have he : Ps.bind p (fun v => Ps.pure (set v m)) xs = .ok (x, k) := he
  obtain ⟨v, i, j, _, e2⟩ := bind_ok he
  unfold Ps.pure at e2
  injection e2 with e2; injection e2 with e2 _
  rw [← e2, h]
theorem keep_seq {α : Type} {g : Ar → α} {l : List Pt} (h : ∀ q ∈ l, KeepP g q) (m : Ar) (xs : List UInt8) (x : Ar) (k : Nat) (he : seqR l m xs = .ok (x, k)) : g x = g m := by
  induction l generalizing m xs x k with
  | nil => unfold seqR Ps.pure at he; injection he with he; injection he with he _; rw [he]
  | cons q l ih =>
    obtain ⟨m', i, j, e1, e2⟩ := bind_ok he
    exact (ih (fun q hq => h q (List.mem_cons_of_mem _ hq)) m' _ x j e2).trans (h q (List.mem_cons_self ..) m _ _ _ e1)
theorem keep_if {α : Type} {g : Ar → α} {c : Ar → Bool} {l : List Pt} (h : ∀ q ∈ l, KeepP g q) : KeepP g (ifP c l) := by
  intro m xs x k he
  have he : (if c m then seqR l m else Ps.pure m) xs = .ok (x, k) := he
  split at he
  · exact keep_seq h m _ _ _ he
  · unfold Ps.pure at he; injection he with he; injection he with he _; rw [he]
theorem keep_one {α : Type} {g : Ar → α} {c : Ar → Bool} {q : Pt} (h : KeepP g q) : KeepP g (ifP c [q]) := keep_if (fun p hp => by simp only [List.mem_singleton] at hp; subst hp; exact h)
/-- What has at such a place what nothing of it reads is refused. -/
theorem put_odd {α : Type} {g : Ar → α} {a : Ar} (h : ∀ q ∈ partsOf a.proc, KeepP g q) (hne : g a ≠ g (Ar.zero a.proc)) : putA a = .error 1 := by
  rcases e : putA a with er | bs
  · rw [putA_err e]
  · obtain ⟨_, _, hg⟩ := putA_ok e
    obtain ⟨_, hr⟩ := getA_ok hg
    exact absurd (keep_seq h _ _ _ _ hr) hne
def okA (r : Except Int (List UInt8)) : Bool := match r with | .ok _ => true | .error _ => false
theorem odd_zero (p : Nat) (hp : p < 22) : okA (putA (Ar.zero p)) = true := by
  have h : ∀ p, p < 22 → okA (putA (Ar.zero p)) = true := by decide +kernel
  exact h p hp
theorem odd_none (p : Nat) (hp : 21 < p) : putA (Ar.zero p) = .error 1 := by rw [putA, if_pos (by exact hp)]
theorem odd_target (p : Nat) (hp : p < 22) : okA (putA {Ar.zero p with target := [116]}) = decide (p = 10) := by
  have h : ∀ p, p < 22 → okA (putA {Ar.zero p with target := [116]}) = decide (p = 10) := by decide +kernel
  exact h p hp
theorem odd_bits (p n : Nat) (hp : p < 22) (hz : n ≠ 0) (hn : n < 4294967296) : okA (putA {Ar.zero p with bits := n}) = decide (p = 4) := by
  by_cases h0 : p = 4
  · subst h0
    rw [putA_of (a := {Ar.zero 4 with bits := n}) (bs := _) (show (4 : Nat) ≤ 21 by decide) (law_access 4) ⟨show (0 : Nat) ≤ 64 by decide, hn, rfl⟩ rfl]
    rfl
  have key : ∀ q ∈ partsOf p, KeepP Ar.bits q := by
    have kH : KeepP Ar.bits ptH := keep_field fun _ _ => rfl
    have kH2 : KeepP Ar.bits ptH2 := keep_field fun _ _ => rfl
    have kName : KeepP Ar.bits ptName := keep_field fun _ _ => rfl
    have kName2 : KeepP Ar.bits ptName2 := keep_field fun _ _ => rfl
    have kTarget : KeepP Ar.bits ptTarget := keep_field fun _ _ => rfl
    have kData : KeepP Ar.bits ptData := keep_field fun _ _ => rfl
    have kSet : KeepP Ar.bits ptSet := keep_field fun _ _ => rfl
    have kOffset : KeepP Ar.bits ptOffset := keep_field fun _ _ => rfl
    have kCookie : KeepP Ar.bits ptCookie := keep_field fun _ _ => rfl
    have kCount : KeepP Ar.bits ptCount := keep_field fun _ _ => rfl
    have kMax : KeepP Ar.bits ptMax := keep_field fun _ _ => rfl
    have kKind : KeepP Ar.bits ptKind := keep_field fun _ _ => rfl
    have kVerf : KeepP Ar.bits ptVerf := keep_field fun _ _ => rfl
    have kGuard : KeepP Ar.bits ptGuard := keep_field fun _ _ => rfl
    have kYes : KeepP Ar.bits ptYes := keep_field fun _ _ => rfl
    have kStable : KeepP Ar.bits ptStable := keep_field fun _ _ => rfl
    have kHow : KeepP Ar.bits ptHow := keep_field fun _ _ => rfl
    intro q hq
    unfold partsOf at hq
    split at hq <;> simp only [List.mem_cons, List.not_mem_nil, or_false] at hq <;>
      first
      | exact absurd rfl h0
      | (subst hq; first | assumption | exact keep_one (by assumption))
      | (rcases hq with rfl | rfl <;> first | assumption | exact keep_one (by assumption))
      | (rcases hq with rfl | rfl | rfl <;> first | assumption | exact keep_one (by assumption))
      | (rcases hq with rfl | rfl | rfl | rfl <;> first | assumption | exact keep_one (by assumption))
      | (rcases hq with rfl | rfl | rfl | rfl | rfl <;> first | assumption | exact keep_one (by assumption))
  rw [put_odd (g := Ar.bits) (a := {Ar.zero p with bits := n}) key hz]
  simp [okA, h0]
theorem odd_max (p n : Nat) (hp : p < 22) (hz : n ≠ 0) (hn : n < 4294967296) : okA (putA {Ar.zero p with max := n}) = decide (p = 17) := by
  by_cases h0 : p = 17
  · subst h0
    rw [putA_of (a := {Ar.zero 17 with max := n}) (bs := _) (show (17 : Nat) ≤ 21 by decide) (law_readdirplus 17) ⟨show (0 : Nat) ≤ 64 by decide, show (0 : Nat) < 18446744073709551616 by decide, rfl, show (0 : Nat) < 4294967296 by decide, hn, rfl⟩ rfl]
    rfl
  have key : ∀ q ∈ partsOf p, KeepP Ar.max q := by
    have kH : KeepP Ar.max ptH := keep_field fun _ _ => rfl
    have kH2 : KeepP Ar.max ptH2 := keep_field fun _ _ => rfl
    have kName : KeepP Ar.max ptName := keep_field fun _ _ => rfl
    have kName2 : KeepP Ar.max ptName2 := keep_field fun _ _ => rfl
    have kTarget : KeepP Ar.max ptTarget := keep_field fun _ _ => rfl
    have kData : KeepP Ar.max ptData := keep_field fun _ _ => rfl
    have kSet : KeepP Ar.max ptSet := keep_field fun _ _ => rfl
    have kOffset : KeepP Ar.max ptOffset := keep_field fun _ _ => rfl
    have kCookie : KeepP Ar.max ptCookie := keep_field fun _ _ => rfl
    have kCount : KeepP Ar.max ptCount := keep_field fun _ _ => rfl
    have kBits : KeepP Ar.max ptBits := keep_field fun _ _ => rfl
    have kKind : KeepP Ar.max ptKind := keep_field fun _ _ => rfl
    have kVerf : KeepP Ar.max ptVerf := keep_field fun _ _ => rfl
    have kGuard : KeepP Ar.max ptGuard := keep_field fun _ _ => rfl
    have kYes : KeepP Ar.max ptYes := keep_field fun _ _ => rfl
    have kStable : KeepP Ar.max ptStable := keep_field fun _ _ => rfl
    have kHow : KeepP Ar.max ptHow := keep_field fun _ _ => rfl
    intro q hq
    unfold partsOf at hq
    split at hq <;> simp only [List.mem_cons, List.not_mem_nil, or_false] at hq <;>
      first
      | exact absurd rfl h0
      | (subst hq; first | assumption | exact keep_one (by assumption))
      | (rcases hq with rfl | rfl <;> first | assumption | exact keep_one (by assumption))
      | (rcases hq with rfl | rfl | rfl <;> first | assumption | exact keep_one (by assumption))
      | (rcases hq with rfl | rfl | rfl | rfl <;> first | assumption | exact keep_one (by assumption))
      | (rcases hq with rfl | rfl | rfl | rfl | rfl <;> first | assumption | exact keep_one (by assumption))
  rw [put_odd (g := Ar.max) (a := {Ar.zero p with max := n}) key hz]
  simp [okA, h0]
theorem odd_cookie (p n : Nat) (hp : p < 22) (hz : n ≠ 0) (hn : n < 4294967296) : okA (putA {Ar.zero p with cookie := n}) = (decide (p = 16) || decide (p = 17)) := by
  by_cases h0 : p = 16
  · subst h0
    rw [putA_of (a := {Ar.zero 16 with cookie := n}) (bs := _) (show (16 : Nat) ≤ 21 by decide) (law_readdir 16) ⟨show (0 : Nat) ≤ 64 by decide, Nat.lt_trans hn (by decide), rfl, show (0 : Nat) < 4294967296 by decide, rfl⟩ rfl]
    rfl
  by_cases h1 : p = 17
  · subst h1
    rw [putA_of (a := {Ar.zero 17 with cookie := n}) (bs := _) (show (17 : Nat) ≤ 21 by decide) (law_readdirplus 17) ⟨show (0 : Nat) ≤ 64 by decide, Nat.lt_trans hn (by decide), rfl, show (0 : Nat) < 4294967296 by decide, show (0 : Nat) < 4294967296 by decide, rfl⟩ rfl]
    rfl
  have key : ∀ q ∈ partsOf p, KeepP Ar.cookie q := by
    have kH : KeepP Ar.cookie ptH := keep_field fun _ _ => rfl
    have kH2 : KeepP Ar.cookie ptH2 := keep_field fun _ _ => rfl
    have kName : KeepP Ar.cookie ptName := keep_field fun _ _ => rfl
    have kName2 : KeepP Ar.cookie ptName2 := keep_field fun _ _ => rfl
    have kTarget : KeepP Ar.cookie ptTarget := keep_field fun _ _ => rfl
    have kData : KeepP Ar.cookie ptData := keep_field fun _ _ => rfl
    have kSet : KeepP Ar.cookie ptSet := keep_field fun _ _ => rfl
    have kOffset : KeepP Ar.cookie ptOffset := keep_field fun _ _ => rfl
    have kCount : KeepP Ar.cookie ptCount := keep_field fun _ _ => rfl
    have kBits : KeepP Ar.cookie ptBits := keep_field fun _ _ => rfl
    have kMax : KeepP Ar.cookie ptMax := keep_field fun _ _ => rfl
    have kKind : KeepP Ar.cookie ptKind := keep_field fun _ _ => rfl
    have kVerf : KeepP Ar.cookie ptVerf := keep_field fun _ _ => rfl
    have kGuard : KeepP Ar.cookie ptGuard := keep_field fun _ _ => rfl
    have kYes : KeepP Ar.cookie ptYes := keep_field fun _ _ => rfl
    have kStable : KeepP Ar.cookie ptStable := keep_field fun _ _ => rfl
    have kHow : KeepP Ar.cookie ptHow := keep_field fun _ _ => rfl
    intro q hq
    unfold partsOf at hq
    split at hq <;> simp only [List.mem_cons, List.not_mem_nil, or_false] at hq <;>
      first
      | exact absurd rfl h0
      | exact absurd rfl h1
      | (subst hq; first | assumption | exact keep_one (by assumption))
      | (rcases hq with rfl | rfl <;> first | assumption | exact keep_one (by assumption))
      | (rcases hq with rfl | rfl | rfl <;> first | assumption | exact keep_one (by assumption))
      | (rcases hq with rfl | rfl | rfl | rfl <;> first | assumption | exact keep_one (by assumption))
      | (rcases hq with rfl | rfl | rfl | rfl | rfl <;> first | assumption | exact keep_one (by assumption))
  rw [put_odd (g := Ar.cookie) (a := {Ar.zero p with cookie := n}) key hz]
  simp [okA, h0, h1]
end Go.Proofs.YtgmhapjidbdhnaaGreat

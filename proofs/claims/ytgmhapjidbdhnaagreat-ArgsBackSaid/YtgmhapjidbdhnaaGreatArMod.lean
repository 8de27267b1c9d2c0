/- What is put is of whole words. No program in sight. -/
import Derived.Test.YtgmhapjidbdhnaaGreatJI
set_option linter.unusedVariables false
set_option linter.unusedSimpArgs false
namespace Go.Proofs.YtgmhapjidbdhnaaGreat
open Go.RowKit
def M4 (r : Except Int (List UInt8)) : Prop := ∀ c, r = .ok c → c.length % 4 = 0
theorem m4_ok {x : List UInt8} (h : x.length % 4 = 0) : M4 (.ok x) := fun c e => by injection e with e; subst e; exact h
theorem m4_err (e : Int) : M4 (.error e) := fun c h => by cases h
theorem m4_cat {rs : List (Except Int (List UInt8))} (h : ∀ r ∈ rs, M4 r) : M4 (catP rs) := by
  induction rs with
  | nil => exact m4_ok rfl
  | cons r rs ih =>
    intro c hc
    rw [catP_cons] at hc
    obtain ⟨b, d, e1, e2, rfl⟩ := cat2_ok hc
    have h1 := h r (List.mem_cons_self ..) b e1
    have h2 := ih (fun r hr => h r (List.mem_cons_of_mem _ hr)) d e2
    rw [List.length_append]
    omega
theorem m4_opq {m : Nat} {x : List UInt8} : M4 (qOpq m x) := by
  unfold qOpq
  split
  · refine m4_ok ?_
    have h4 : (put4 x.length).length = 4 := rfl
    have := padN_mod x.length
    rw [List.length_append, qCut_length]
    omega
  · exact m4_err _
theorem m4_4 (n : Nat) : M4 (.ok (put4 n)) := m4_ok (by rw [put4_length])
theorem m4_8 (n : Nat) : M4 (.ok (put8 n)) := m4_ok (by rw [show (put8 n).length = 8 from rfl])
theorem m4_yes (y : Bool) : M4 (.ok (putYes y)) := m4_ok (by cases y <;> rfl)
theorem m4_small {m n : Nat} : M4 (qSmall m n) := by
  unfold qSmall
  split
  · exact m4_4 _
  · exact m4_err _
theorem m4_time (t : Tm) : M4 (rTime t) := by
  unfold rTime
  split
  · exact m4_ok (by rw [putTm_length])
  · exact m4_err _
theorem m4_how (h : Nat) (t : Tm) : M4 (rHow h t) := by
  unfold rHow
  split
  · exact m4_err _
  · split
    · exact m4_cat (fun r hr => by
        simp only [List.mem_cons, List.not_mem_nil, or_false] at hr
        rcases hr with rfl | rfl
        · exact m4_4 _
        · exact m4_time _)
    · exact m4_4 _
theorem m4_opt (has zero : Bool) {r : Except Int (List UInt8)} (h : M4 r) : M4 (rOpt has zero [r]) := by
  unfold rOpt
  split
  · exact m4_err _
  · split
    · exact m4_yes _
    · rw [catP_one]
      split
      · exact m4_err _
      · rename_i x b
        have h1 := h b (by first | rfl | assumption)
        have h2 : (putYes true).length = 4 := rfl
        refine m4_ok ?_
        rw [List.length_append]
        omega
theorem m4_set (s : St) : M4 (rSet s) := by
  unfold rSet
  split
  · refine m4_cat (fun r hr => ?_)
    simp only [setL, List.mem_cons, List.not_mem_nil, or_false] at hr
    rcases hr with rfl | rfl | rfl | rfl | rfl | rfl
    all_goals first | exact m4_opt _ _ (m4_4 _) | exact m4_opt _ _ (m4_8 _) | exact m4_how _ _
  · exact m4_err _
def ModP (a : Ar) (q : Pt) : Prop := M4 (q.wr a)
theorem mod_seq {a : Ar} {l : List Pt} (h : ∀ q ∈ l, ModP a q) : M4 (seqW l a) := m4_cat (fun r hr => by
  obtain ⟨q, hq, rfl⟩ := List.mem_map.1 hr
  exact h q hq)
theorem mod_if {a : Ar} {c : Ar → Bool} {q : Pt} (h : ModP a q) : ModP a (ifP c [q]) := by
  show M4 (if c a then seqW [q] a else .ok [])
  split
  · exact mod_seq (l := [q]) (fun p hp => by simp only [List.mem_singleton] at hp; subst hp; exact h)
  · exact m4_ok rfl
theorem mod_parts {a : Ar} (hv : a.verf.length = 8) (p : Nat) : ∀ q ∈ partsOf p, ModP a q := by
  have a1 : ModP a ptH := m4_opq
  have a2 : ModP a ptH2 := m4_opq
  have a3 : ModP a ptName := m4_opq
  have a4 : ModP a ptName2 := m4_opq
  have a5 : ModP a ptTarget := m4_opq
  have a6 : ModP a ptData := m4_opq
  have a7 : ModP a ptSet := m4_set _
  have a8 : ModP a ptOffset := m4_8 _
  have a9 : ModP a ptCookie := m4_8 _
  have b1 : ModP a ptCount := m4_4 _
  have b2 : ModP a ptBits := m4_4 _
  have b3 : ModP a ptMax := m4_4 _
  have b4 : ModP a ptKind := m4_4 _
  have b5 : ModP a ptVerf := m4_ok (x := a.verf) (by rw [hv])
  have b6 : ModP a ptGuard := m4_time _
  have b7 : ModP a ptYes := m4_yes _
  have b8 : ModP a ptStable := m4_small
  have b9 : ModP a ptHow := m4_small
  intro q hq
  unfold partsOf at hq
  split at hq <;> simp only [List.mem_cons, List.not_mem_nil, or_false] at hq <;>
    first
    | (subst hq; first | assumption | exact mod_if (by assumption))
    | (rcases hq with rfl | rfl <;> first | assumption | exact mod_if (by assumption))
    | (rcases hq with rfl | rfl | rfl <;> first | assumption | exact mod_if (by assumption))
    | (rcases hq with rfl | rfl | rfl | rfl <;> first | assumption | exact mod_if (by assumption))
    | (rcases hq with rfl | rfl | rfl | rfl | rfl <;> first | assumption | exact mod_if (by assumption))
theorem putA_mod {a : Ar} {bs : List UInt8} (hv : a.verf.length = 8) (h : putA a = .ok bs) : bs.length % 4 = 0 := by
  obtain ⟨_, hs, _⟩ := putA_ok h
  exact mod_seq (mod_parts hv a.proc) bs hs
end Go.Proofs.YtgmhapjidbdhnaaGreat

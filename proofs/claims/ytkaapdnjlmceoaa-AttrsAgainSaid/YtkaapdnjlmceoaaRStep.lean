/- The document's Reader: each part as one step, whatever its error is. -/
import Derived.Test.YtkaapdnjlmceoaaRRead3
import Derived.Test.YtkaapdnjlmceoaaRInv
set_option linter.unusedVariables false
set_option linter.unusedSimpArgs false
namespace Go.Proofs.Ytkaapdnjlmceoaa
open Go.RowKit
/-- What a part of the document's reading comes to, whatever its error was. -/
def RSPost {α : Type} (p : Ps α) (enc : α → Value) (R : Nat) (A : Option Addr) (n cap k : Nat) (er : Int) (xs : List UInt8) (w : World) (e : Ending) (w' : World) : Prop :=
  ∃ v k' er', RStep p xs k er v k' er' ∧ k' ≤ n ∧ e = .returned (enc v) ∧ RRB w' R A n cap k' er' ∧ w.grownBy w' (some R)
section
variable {R : Nat} {A : Option Addr} {n cap k : Nat} {xs : List UInt8} {w : World} {er : Int}
theorem RSPost.live {α : Type} {p : Ps α} {enc : α → Value} {z : α} {e : Ending} {w' : World} (hk : k ≤ n) (h : RRPost p enc z R A n cap k xs w e w') : RSPost p enc R A n cap k 0 xs w e w' := by
  obtain ⟨hg, ⟨v, j, hp, hl, rfl, hR⟩ | ⟨er, hp, he, rfl, hR⟩⟩ := h
  · exact ⟨v, k + j, 0, .inl ⟨rfl, rfl, j, hp, rfl⟩, hl, rfl, hR, hg⟩
  · exact ⟨z, k, er, .inr (.inl ⟨rfl, he, hp⟩), hk, rfl, hR, hg⟩
theorem RNumber_s (hR : RRB w R A n cap k er) (hB : Bs w A n xs) (hc : n ≤ cap) (hk : k ≤ n) : Calls Try.prog 68 #[.pointer (some ⟨R, 0, none⟩)] w (RSPost pNum eNum R A n cap k er xs w) := by
  by_cases he : er = 0
  · subst he; exact (RRNumber hR hB hc hk).mono fun e w' h => RSPost.live hk h
  · refine (RRNumber_dead hR he).mono ?_; rintro e w' ⟨rfl, rfl⟩; exact ⟨0, k, er, .inr (.inr ⟨he, rfl⟩), hk, rfl, hR, World.grownBy.refl _ _⟩
theorem RLong_s (hR : RRB w R A n cap k er) (hB : Bs w A n xs) (hc : n ≤ cap) (hk : k ≤ n) : Calls Try.prog 70 #[.pointer (some ⟨R, 0, none⟩)] w (RSPost pLong eLong R A n cap k er xs w) := by
  by_cases he : er = 0
  · subst he; exact (RRLong hR hB hc hk).mono fun e w' h => RSPost.live hk h
  · refine (RRLong_dead hR he).mono ?_; rintro e w' ⟨rfl, rfl⟩; exact ⟨0, k, er, .inr (.inr ⟨he, rfl⟩), hk, rfl, hR, World.grownBy.refl _ _⟩
theorem RYes_s (hR : RRB w R A n cap k er) (hB : Bs w A n xs) (hc : n ≤ cap) (hk : k ≤ n) : Calls Try.prog 67 #[.pointer (some ⟨R, 0, none⟩)] w (RSPost pYes eYes R A n cap k er xs w) := by
  by_cases he : er = 0
  · subst he; exact (RRYes hR hB hc hk).mono fun e w' h => RSPost.live hk h
  · refine (RRYes_dead hR he).mono ?_; rintro e w' ⟨rfl, rfl⟩; exact ⟨false, k, er, .inr (.inr ⟨he, rfl⟩), hk, rfl, hR, World.grownBy.refl _ _⟩
theorem RTime_s (hR : RRB w R A n cap k er) (hB : Bs w A n xs) (hc : n ≤ cap) (hk : k ≤ n) : Calls Try.prog 71 #[.pointer (some ⟨R, 0, none⟩)] w (RSPost pTime eTime R A n cap k er xs w) := by
  by_cases he : er = 0
  · subst he; exact (RRTime hR hB hc hk).mono fun e w' h => RSPost.live hk h
  · refine (RRTime_dead hR he).mono ?_; rintro e w' ⟨rfl, hb⟩; exact ⟨⟨0, 0⟩, k, er, .inr (.inr ⟨he, rfl⟩), hk, rfl, hR.below hb, gb_below hb⟩
theorem RAttrs_s (hR : RRB w R A n cap k er) (hB : Bs w A n xs) (hc : n ≤ cap) (hk : k ≤ n) : Calls Try.prog 76 #[.pointer (some ⟨R, 0, none⟩)] w (RSPost pAttrs eAttrs R A n cap k er xs w) := by
  by_cases he : er = 0
  · subst he; exact (RRAttrs hR hB hc hk).mono fun e w' h => RSPost.live hk h
  · refine (RRAttrs_dead hR he).mono ?_; rintro e w' ⟨rfl, hb⟩; exact ⟨At.zero, k, er, .inr (.inr ⟨he, rfl⟩), hk, rfl, hR.below hb, gb_below hb⟩
theorem RMust_s (c : Bool) (hR : RRB w R A n cap k er) : Calls Try.prog 69 #[.pointer (some ⟨R, 0, none⟩), .bool c] w fun e w' => ∃ er', er' = (if er = 0 ∧ c = false then 5 else er) ∧ e = .returned (.tuple #[]) ∧ RRB w' R A n cap k er' ∧ w.grownBy w' (some R) :=
  (RRMust c hR).mono fun e w' h => ⟨_, rfl, h.1, h.2.2, h.2.1⟩
end
/-- A block of the call's own. -/
def OwnL (w : World) (b : Nat) (l : List Value) : Prop := b < w.heap.size ∧ (∀ o, w.cell? ⟨b, o, none⟩ = l[o]?) ∧ (∀ o, w.frozen? ⟨b, o, none⟩ = false)
namespace OwnL
variable {w w' : World} {b R : Nat} {l : List Value}
theorem set (h : OwnL w b l) {i : Nat} {v : Value} (hi : i < l.length := by simp) : OwnL (w.setCell ⟨b, i, none⟩ v) b (l.set i v) := by
  refine ⟨by simpa [World.setCell] using h.1, fun o => ?_, fun o => ?_⟩
  · by_cases ho : i = o
    · subst ho
      have hc := h.2.1 i
      simp [go_sem, hc, List.getElem?_eq_getElem hi, hi]
    · have hc := h.2.1 o
      rw [List.getElem?_set_ne ho, ← hc]
      simp [go_sem, ho, Ne.symm ho]
  · have := h.2.2 o
    simp [go_sem, this]
theorem set_ (h : OwnL w b l) {i : Nat} {v : Value} (hi : i < l.length) : OwnL (w.setCell ⟨b, i, none⟩ v) b (l.set i v) := h.set hi
theorem other (h : OwnL w b l) {p : Addr} (hp : b ≠ p.block) {v : Value} : OwnL (w.setCell p v) b l := by
  have e := Below.heap_setCell w p v b hp
  exact ⟨by simpa [World.setCell] using h.1, fun o => (World.cell?_of_block (a := ⟨b, o, none⟩) e).trans (h.2.1 o), fun o => (World.frozen?_of_block (a := ⟨b, o, none⟩) e).trans (h.2.2 o)⟩
theorem grown (h : OwnL w b l) (hg : w.grownBy w' (some R)) (hne : ¬ b = R) : OwnL w' b l :=
  ⟨Nat.lt_of_lt_of_le h.1 hg.size, fun o => ((gcell hg).1 b o h.1 hne).trans (h.2.1 o), fun o => ((gcell hg).2 b o h.1 hne).trans (h.2.2 o)⟩
end OwnL
end Go.Proofs.Ytkaapdnjlmceoaa

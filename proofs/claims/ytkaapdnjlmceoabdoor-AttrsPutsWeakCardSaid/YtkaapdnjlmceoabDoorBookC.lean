/- A Book of bytes: growing. -/
import Derived.Test.YtkaapdnjlmceoabDoorBookB
set_option linter.unusedVariables false
set_option linter.unusedSimpArgs false
namespace Go.Proofs.YtkaapdnjlmceoabDoor
open Go.RowKit
theorem marks_length (h : HB) (k : Nat) : (marks h k).length = k := by simp [marks]
theorem marks_take (h : HB) (k j : Nat) (hk : k ≤ j) : (marks h j).take k = marks h k := by simp [marks]; omega
theorem marks_snoc (h : HB) (k : Nat) : marks h k ++ [mk8 h.n] = marks h (k + 1) := by simp [marks, List.replicate_succ']
theorem Bs.other {w w' : World} {A : Option Addr} {n b : Nat} {xs : List UInt8} (h : Bs w A n xs) (hg : w.grownBy w' (some b)) (hne : ∀ p, A = some p → p.block ≠ b) : Bs w' A n xs :=
  ⟨h.1, h.2.1, fun hn => by
    obtain ⟨g, off, e, hl, hc⟩ := h.2.2 hn
    exact ⟨g, off, e, Nat.lt_of_lt_of_le hl hg.size, fun j hj => ((gcell hg).1 g _ hl (hne _ e)).trans (hc j hj)⟩⟩
theorem Bs.inB {w : World} {A : Option Addr} {n : Nat} {xs : List UInt8} (h : Bs w A n xs) (hn : 0 < n) {p : Addr} (hp : A = some p) : p.block < w.heap.size := by
  obtain ⟨g, off, e, hl, _⟩ := h.2.2 hn
  rw [hp] at e; injection e with e; subst e; exact hl
theorem OwnB.inB {w : World} {base l c : Nat} {A : Option Addr} {bs : List UInt8} (h : OwnB w base (.slice A l c) bs) {p : Addr} (hp : A = some p) : p.block < w.heap.size := by
  unfold OwnB at h
  rcases h.2 with ⟨h1, _⟩ | ⟨g, cap, cur, h1, _, h3, _⟩
  · injection h1 with h1; rw [hp] at h1; cases h1
  · injection h1 with h1; rw [hp] at h1; injection h1 with h1; subst h1
    exact (Array.getElem?_eq_some_iff.1 h3).1
theorem OwnB.bs' {w : World} {base n c : Nat} {A : Option Addr} {bs : List UInt8} (h : OwnB w base (.slice A n c) bs) : Bs w A n bs ∧ n ≤ c := by
  obtain ⟨A', c', e, h1, _, hb⟩ := h.reads
  injection e with e1 e2 e3; subst e1; subst e2; subst e3; exact ⟨hb, h1⟩
theorem ownBlock_at {A : Option Addr} {l c g : Nat} (h : (Value.slice A l c).ownBlock = some g) : ∃ p, A = some p ∧ p.block = g := by
  rw [ownBlock_slice] at h
  cases A with
  | none => cases h
  | some p => injection h with h; exact ⟨p, rfl, h⟩
/-- A Book's memory, while it grows: what is below lo has grown, what is from hi on has not. -/
structure GrSt (m B : Nat) (w : World) (K G : Nat) (kc : List Value) (hs : List HB) (lo hi : Nat) : Prop where
  hK : OwnL w K kc
  hG : Rows3 w G hs
  hO : ∀ i (h : i < hs.length), hi ≤ i → OwnB w 0 hs[i].v (marks hs[i] hs[i].l)
  hD : ∀ i (h : i < hs.length), i < lo → Bs w hs[i].A hs[i].l (marks hs[i] hs[i].l) ∧ Bs w hs[i].L (hs[i].l + 40) (marks hs[i] (hs[i].l + 40)) ∧ hs[i].l2 = hs[i].l + 40 ∧ hs[i].l2 ≤ hs[i].c2
  hA : ∀ i (h : i < hs.length) p, hs[i].A = some p → p.block ≠ K ∧ p.block ≠ G ∧ m ≤ p.block ∧ p.block < B ∧ ∀ j (hj : j < hs.length), j ≠ i → ∀ q, hs[j].A = some q → q.block ≠ p.block
  hL : ∀ i (h : i < hs.length), i < lo → ∀ p, hs[i].L = some p → p.block ≠ K ∧ p.block ≠ G ∧ ∀ j (hj : j < hs.length), lo ≤ j → ∀ q, hs[j].A = some q → q.block ≠ p.block
  hm : m ≤ K ∧ m ≤ G ∧ K ≠ G ∧ K < B ∧ G < B ∧ B ≤ w.heap.size
  hn : ∀ i (h : i < hs.length), hs[i].n ≤ 1000000 ∧ hs[i].l ≤ hs[i].c ∧ hs[i].l ≤ 1099511627000
namespace GrSt
variable {m B K G lo hi : Nat} {w w' : World} {kc : List Value} {hs : List HB}
theorem below (h : GrSt m B w K G kc hs lo hi) (hb : Below w.heap.size w w') : GrSt m B w' K G kc hs lo hi :=
  ⟨h.hK.trk' hb, h.hG.below hb, fun i a b => (h.hO i a b).below hb, fun i a b => ⟨(h.hD i a b).1.below hb, (h.hD i a b).2.1.below hb, (h.hD i a b).2.2⟩, h.hA, h.hL, ⟨h.hm.1, h.hm.2.1, h.hm.2.2.1, h.hm.2.2.2.1, h.hm.2.2.2.2.1, Nat.le_trans h.hm.2.2.2.2.2 hb.size⟩, h.hn⟩
theorem grown (h : GrSt m B w K G kc hs lo hi) {g : Nat} (hg : w.grownBy w' (some g)) (h1 : K ≠ g) (h2 : G ≠ g) (h3 : ∀ i (a : i < hs.length), i < lo ∨ hi ≤ i → ∀ p, hs[i].A = some p → p.block ≠ g) (h4 : ∀ i (a : i < hs.length), i < lo → ∀ p, hs[i].L = some p → p.block ≠ g) : GrSt m B w' K G kc hs lo hi :=
  ⟨h.hK.grown hg h1, h.hG.grown hg h2, fun i a b => (h.hO i a b).grown hg (by
      rw [HB.v]; intro e; obtain ⟨p, e1, e2⟩ := ownBlock_at e; exact h3 i a (.inr b) p e1 e2),
    fun i a b => ⟨(h.hD i a b).1.other hg (h3 i a (.inl b)), (h.hD i a b).2.1.other hg (h4 i a b), (h.hD i a b).2.2⟩, h.hA, h.hL, ⟨h.hm.1, h.hm.2.1, h.hm.2.2.1, h.hm.2.2.2.1, h.hm.2.2.2.2.1, Nat.le_trans h.hm.2.2.2.2.2 hg.size⟩, h.hn⟩
end GrSt
theorem BkSt.grows {m K G : Nat} {w : World} {kc : List Value} {hs : List HB} (h : BkSt m w K G kc hs (fun i => if hi : i < hs.length then marks hs[i] hs[i].l else [])) (hl : ∀ i (hi : i < hs.length), hs[i].l ≤ hs[i].c ∧ hs[i].l ≤ 1099511627000) : GrSt m w.heap.size w K G kc hs 0 0 :=
  ⟨h.hK, h.hG, fun i a _ => by have := h.hO i a; rwa [dif_pos a] at this, fun i a b => absurd b (by omega), fun i a p hp => by
      obtain ⟨h1, h2, h3, h4⟩ := h.hA i a p hp
      have := h.hO i a
      exact ⟨h1, h2, h3, OwnB.inB this hp, h4⟩, fun i a b => absurd b (by omega), ⟨h.hm.1, h.hm.2.1, h.hm.2.2, h.hK.1, h.hG.1, Nat.le_refl _⟩, fun i a => ⟨h.hn i a, hl i a⟩⟩
/-- The same lists, whatever they grew to. -/
def Like (hs hs' : List HB) : Prop := hs'.length = hs.length ∧ ∀ i (a : i < hs.length) (b : i < hs'.length), hs'[i].A = hs[i].A ∧ hs'[i].l = hs[i].l ∧ hs'[i].c = hs[i].c ∧ hs'[i].n = hs[i].n
def HB.to (x : HB) (L : Option Addr) (l2 c2 : Nat) : HB := ⟨x.A, x.l, x.c, L, l2, c2, x.n⟩
theorem Rows3.put {w : World} {G i : Nat} {hs : List HB} (h : Rows3 w G hs) (hi : i < hs.length) (L : Option Addr) (l2 c2 : Nat) : Rows3 (w.setCell ⟨G, i * 3 + 1, none⟩ (.slice L l2 c2)) G (hs.set i (hs[i].to L l2 c2)) := by
  obtain ⟨h1, h2, h3⟩ := h
  refine ⟨by simpa [World.setCell] using h1, fun o => by rw [World.frozen?_setCell]; exact h2 o, fun j hj => ?_⟩
  rw [List.length_set] at hj
  obtain ⟨a1, a2, a3⟩ := h3 j hj
  rw [List.getElem_set]
  by_cases e : i = j
  · subst e
    rw [if_pos rfl]
    refine ⟨?_, ?_, ?_⟩
    · rw [World.cell?_setCell_other _ _ _ _ (by intro h; injection h with h4 h5; omega)]; exact a1
    · exact World.cell?_setCell_same _ _ _ a2
    · rw [World.cell?_setCell_other _ _ _ _ (by intro h; injection h with h4 h5; omega)]; exact a3
  · rw [if_neg e]
    refine ⟨?_, ?_, ?_⟩
    · rw [World.cell?_setCell_other _ _ _ _ (by intro h; injection h with h4 h5; omega)]; exact a1
    · rw [World.cell?_setCell_other _ _ _ _ (by intro h; injection h with h4 h5; omega)]; exact a2
    · rw [World.cell?_setCell_other _ _ _ _ (by intro h; injection h with h4 h5; omega)]; exact a3
theorem GrSt.put {m B K G i : Nat} {w : World} {kc : List Value} {hs : List HB} (h : GrSt m B w K G kc hs i (i + 1)) (hi : i < hs.length) {L : Option Addr} {c2 : Nat} (hc : hs[i].l + 40 ≤ c2)
    (h1 : Bs w hs[i].A hs[i].l (marks hs[i] hs[i].l)) (h2 : Bs w L (hs[i].l + 40) (marks hs[i] (hs[i].l + 40))) (h3 : ∀ p, L = some p → (∃ q, hs[i].A = some q ∧ q.block = p.block) ∨ B ≤ p.block) :
    GrSt m B (w.setCell ⟨G, i * 3 + 1, none⟩ (.slice L (hs[i].l + 40) c2)) K G kc (hs.set i (hs[i].to L (hs[i].l + 40) c2)) (i + 1) (i + 1) := by
  have hgr : w.grownBy (w.setCell ⟨G, i * 3 + 1, none⟩ (.slice L (hs[i].l + 40) c2)) (some G) := grown_set _ _ _ _
  have hLb : ∀ p, L = some p → p.block ≠ K ∧ p.block ≠ G ∧ ∀ j (hj : j < hs.length), j ≠ i → ∀ q, hs[j].A = some q → q.block ≠ p.block := by
    intro p hp
    rcases h3 p hp with ⟨q, hq, e⟩ | hb
    · obtain ⟨a1, a2, a3, a4, a5⟩ := h.hA i hi q hq
      rw [← e]
      exact ⟨a1, a2, fun j hj hne q' hq' => a5 j hj hne q' hq'⟩
    · have := h.hm
      exact ⟨by omega, by omega, fun j hj hne q hq => by have := (h.hA j hj q hq).2.2.2.1; omega⟩
  have get : ∀ j (hj : j < (hs.set i (hs[i].to L (hs[i].l + 40) c2)).length), ∃ hj' : j < hs.length, ((hs.set i (hs[i].to L (hs[i].l + 40) c2))[j].A = hs[j].A ∧ (hs.set i (hs[i].to L (hs[i].l + 40) c2))[j].l = hs[j].l ∧ (hs.set i (hs[i].to L (hs[i].l + 40) c2))[j].c = hs[j].c ∧ (hs.set i (hs[i].to L (hs[i].l + 40) c2))[j].n = hs[j].n) ∧ (j ≠ i → (hs.set i (hs[i].to L (hs[i].l + 40) c2))[j] = hs[j]) ∧ (j = i → (hs.set i (hs[i].to L (hs[i].l + 40) c2))[j] = hs[i].to L (hs[i].l + 40) c2) := by
    intro j hj
    rw [List.length_set] at hj
    refine ⟨hj, ?_, ?_, ?_⟩
    · rw [List.getElem_set]
      by_cases e : i = j
      · subst e; rw [if_pos rfl]; exact ⟨rfl, rfl, rfl, rfl⟩
      · rw [if_neg e]; exact ⟨rfl, rfl, rfl, rfl⟩
    · intro e; rw [List.getElem_set, if_neg (Ne.symm e)]
    · intro e; subst e; rw [List.getElem_set, if_pos rfl]
  have hAG : ∀ j (hj : j < hs.length), ∀ p, hs[j].A = some p → p.block ≠ G := fun j hj p hp => (h.hA j hj p hp).2.1
  refine ⟨h.hK.grown hgr h.hm.2.2.1, h.hG.put hi _ _ _, fun j hj hij => ?_, fun j hj hij => ?_, fun j hj p hp => ?_, fun j hj hij p hp => ?_, ?_, fun j hj => ?_⟩
  · obtain ⟨hj', _, hne, _⟩ := get j hj
    rw [hne (by omega)]
    refine (h.hO j hj' hij).grown hgr ?_
    rw [HB.v]; intro e; obtain ⟨p, e1, e2⟩ := ownBlock_at e
    exact hAG j hj' p e1 e2
  · obtain ⟨hj', _, hne, he⟩ := get j hj
    by_cases e : j = i
    · rw [he e]
      exact ⟨h1.other hgr (hAG i hi), h2.other hgr (fun p hp => (hLb p hp).2.1), rfl, hc⟩
    · rw [hne e]
      obtain ⟨d1, d2, d3⟩ := h.hD j hj' (by omega)
      exact ⟨d1.other hgr (hAG j hj'), d2.other hgr (fun p hp => (h.hL j hj' (by omega) p hp).2.1), d3⟩
  · obtain ⟨hj', ⟨eA, _⟩, _⟩ := get j hj
    rw [eA] at hp
    obtain ⟨a1, a2, a3, a4, a5⟩ := h.hA j hj' p hp
    refine ⟨a1, a2, a3, a4, fun j2 hj2 hne q hq => ?_⟩
    obtain ⟨hj2', ⟨eA2, _⟩, _⟩ := get j2 hj2
    rw [eA2] at hq
    exact a5 j2 hj2' hne q hq
  · obtain ⟨hj', _, hne, he⟩ := get j hj
    by_cases e : j = i
    · rw [he e] at hp
      obtain ⟨b1, b2, b3⟩ := hLb p hp
      refine ⟨b1, b2, fun j2 hj2 hij2 q hq => ?_⟩
      obtain ⟨hj2', ⟨eA2, _⟩, _⟩ := get j2 hj2
      rw [eA2] at hq
      exact b3 j2 hj2' (by omega) q hq
    · rw [hne e] at hp
      obtain ⟨b1, b2, b3⟩ := h.hL j hj' (by omega) p hp
      refine ⟨b1, b2, fun j2 hj2 hij2 q hq => ?_⟩
      obtain ⟨hj2', ⟨eA2, _⟩, _⟩ := get j2 hj2
      rw [eA2] at hq
      exact b3 j2 hj2' (by omega) q hq
  · obtain ⟨a1, a2, a3, a4, a5, a6⟩ := h.hm
    exact ⟨a1, a2, a3, a4, a5, by simpa [World.setCell] using a6⟩
  · obtain ⟨hj', ⟨_, eL, eC, eN⟩, _⟩ := get j hj
    rw [eL, eC, eN]; exact h.hn j hj'
end Go.Proofs.YtkaapdnjlmceoabDoor

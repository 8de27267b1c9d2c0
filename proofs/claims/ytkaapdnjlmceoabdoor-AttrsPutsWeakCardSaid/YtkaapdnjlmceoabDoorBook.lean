/- A Book of bytes: its memory; marks; filling. -/
import Derived.Test.YtkaapdnjlmceoabDoorBig
import Derived.Test.YtkaapdnjlmceoabDoorAppend
import Derived.Deep.RegionHeld3
import Derived.Laws.OwnMore
set_option linter.unusedVariables false
set_option linter.unusedSimpArgs false
namespace Go.Proofs.YtkaapdnjlmceoabDoor
open Go.RowKit
/-- Bytes that a Book holds: the list, what it grew to, its number. -/
structure HB where
  A : Option Addr
  l : Nat
  c : Nat
  L : Option Addr
  l2 : Nat
  c2 : Nat
  n : Nat
def HB.v (h : HB) : Value := .slice h.A h.l h.c
def HB.v2 (h : HB) : Value := .slice h.L h.l2 h.c2
/-- The mark of a number. -/
def mk8 (n : Nat) : UInt8 := UInt8.ofNat (1 + n % 250)
theorem mk8_toNat (n : Nat) : (mk8 n).toNat = 1 + n % 250 := by
  rw [mk8, UInt8.toNat_ofNat', Nat.mod_eq_of_lt (by omega)]
def marks (h : HB) (k : Nat) : List UInt8 := List.replicate k (mk8 h.n)
theorem markByte_any (n : Nat) (hn : n ≤ 1000000) (w : World) : Calls Tryd.prog 63 #[.int .i64 n] w fun e w' => e = .returned (.int .u8 (mk8 n).toNat) ∧ w = w' := by
  rw [mk8_toNat]
  go_enter Tryd.func63, Tryd.ntmps63
  go_wp2
  go_ret
  refine ⟨?_, rfl⟩
  refine congrArg Ending.returned (congrArg (Value.int .u8) ?_)
  simp [IntKind.wrap, IntKind.bits, IntKind.signed]
theorem isByte_any (x n : Nat) (hn : n ≤ 1000000) (w : World) : Calls Tryd.prog 70 #[.int .u8 x, .int .i64 n] w fun e w' => e = .returned (.bool ((x : Int) == ((mk8 n).toNat : Int))) ∧ w = w' := by
  rw [mk8_toNat]
  go_enter Tryd.func70, Tryd.ntmps70
  go_wp2
  go_ret
  refine ⟨?_, rfl⟩
  refine congrArg Ending.returned (congrArg Value.bool (congrArg (fun z => (x : Int) == z) ?_))
  simp [IntKind.wrap, IntKind.bits, IntKind.signed]
/-- The book's rows. -/
def Rows3 (w : World) (G : Nat) (hs : List HB) : Prop :=
  G < w.heap.size ∧ (∀ o, w.frozen? ⟨G, o, none⟩ = false) ∧ ∀ i (hi : i < hs.length), w.cell? ⟨G, i * 3, none⟩ = some hs[i].v ∧ w.cell? ⟨G, i * 3 + 1, none⟩ = some hs[i].v2 ∧ w.cell? ⟨G, i * 3 + 2, none⟩ = some (.int .i64 hs[i].n)
theorem Rows3.grown {w w' : World} {G R : Nat} {hs : List HB} (h : Rows3 w G hs) (hg : w.grownBy w' (some R)) (hne : ¬ G = R) : Rows3 w' G hs := by
  obtain ⟨h1, h2, h3⟩ := h
  have hc := (gcell hg).1; have hf := (gcell hg).2
  exact ⟨Nat.lt_of_lt_of_le h1 hg.size, fun o => (hf G o h1 hne).trans (h2 o), fun i hi => ⟨(hc G _ h1 hne).trans (h3 i hi).1, (hc G _ h1 hne).trans (h3 i hi).2.1, (hc G _ h1 hne).trans (h3 i hi).2.2⟩⟩
theorem Rows3.below {w w' : World} {G : Nat} {hs : List HB} (h : Rows3 w G hs) (hb : Below w.heap.size w w') : Rows3 w' G hs := by
  obtain ⟨h1, h2, h3⟩ := h
  obtain ⟨hc, hf⟩ := bcell hb
  exact ⟨Nat.lt_of_lt_of_le h1 hb.size, fun o => (hf G o h1).trans (h2 o), fun i hi => ⟨(hc G _ h1).trans (h3 i hi).1, (hc G _ h1).trans (h3 i hi).2.1, (hc G _ h1).trans (h3 i hi).2.2⟩⟩
theorem OwnL.trk' {w w' : World} {b : Nat} {l : List Value} (h : OwnL w b l) (hb : Below w.heap.size w w') : OwnL w' b l :=
  ⟨Nat.lt_of_lt_of_le h.1 hb.size, fun o => (hb.cell (p := ⟨b, o, none⟩) h.1).trans (h.2.1 o), fun o => (hb.frozen (p := ⟨b, o, none⟩) h.1).trans (h.2.2 o)⟩
theorem OwnL.made' (w : World) (l : List Value) (t : TypeId) : OwnL (w.alloc (.cells l.toArray t)) w.heap.size l := ⟨by simp, fun o => by simp [go_sem], fun o => by simp [go_sem]⟩
theorem OwnB.grown {w w' : World} {base R : Nat} {v : Value} {bs : List UInt8} (h : OwnB w base v bs) (hg : w.grownBy w' (some R)) (hne : v.ownBlock ≠ some R) : OwnB w' base v bs := World.ownsRow.kept h hg (.inr hne)
theorem ownBlock_slice (A : Option Addr) (l c : Nat) : (Value.slice A l c).ownBlock = A.map (·.block) := by cases A <;> rfl
theorem OwnB.cellf {w : World} {base g n c : Nat} {bs : List UInt8} (h : OwnB w base (.slice (some ⟨g, 0, none⟩) n c) bs) (j : Nat) (hj : j < n) : (∃ y : Int, w.cell? ⟨g, j, none⟩ = some (.int .u8 y)) ∧ w.frozen? ⟨g, j, none⟩ = false := by
  have h' := h
  unfold OwnB at h
  rcases h.2 with ⟨h1, h2⟩ | ⟨g', cap, cur, h1, h2, h3, _⟩
  · cases h1
  · injection h1 with h1 h4 h5; injection h1 with h1; injection h1 with h1; subst h1; subst h4
    refine ⟨?_, ?_⟩
    · obtain ⟨A', c', e, _, _, hB⟩ := h'.reads
      injection e with e1 e2 e3; subst e1
      obtain ⟨b, off, e4, _, hc⟩ := hB.2.2 (by omega)
      injection e4 with e4; injection e4 with e4 e5; subst e4; subst e5
      have := hc j hj
      rw [Nat.zero_add] at this
      exact ⟨_, this⟩
    · simp [World.frozen?, h3]
/-- A Book's memory, while it is filled. -/
structure BkSt (m : Nat) (w : World) (K G : Nat) (kc : List Value) (hs : List HB) (ds : Nat → List UInt8) : Prop where
  hK : OwnL w K kc
  hG : Rows3 w G hs
  hO : ∀ i (hi : i < hs.length), OwnB w 0 hs[i].v (ds i)
  hA : ∀ i (hi : i < hs.length) p, hs[i].A = some p → p.block ≠ K ∧ p.block ≠ G ∧ m ≤ p.block ∧ ∀ j (hj : j < hs.length), j ≠ i → ∀ q, hs[j].A = some q → q.block ≠ p.block
  hm : m ≤ K ∧ m ≤ G ∧ K ≠ G
  hn : ∀ i (hi : i < hs.length), hs[i].n ≤ 1000000
namespace BkSt
variable {m K G : Nat} {w w' : World} {kc : List Value} {hs : List HB} {ds : Nat → List UInt8}
theorem below (h : BkSt m w K G kc hs ds) (hb : Below w.heap.size w w') : BkSt m w' K G kc hs ds :=
  ⟨h.hK.trk' hb, h.hG.below hb, fun i hi => (h.hO i hi).below hb, h.hA, h.hm, h.hn⟩
theorem same (h : BkSt m w K G kc hs ds) {ds' : Nat → List UInt8} (hd : ∀ i, i < hs.length → ds' i = ds i) : BkSt m w K G kc hs ds' :=
  ⟨h.hK, h.hG, fun i hi => by rw [hd i hi]; exact h.hO i hi, h.hA, h.hm, h.hn⟩
/-- The list's block, if it holds something. -/
theorem at_ (h : BkSt m w K G kc hs ds) {i : Nat} (hi : i < hs.length) (hp : 0 < hs[i].l) : ∃ g, hs[i].A = some ⟨g, 0, none⟩ ∧ g < w.heap.size ∧ g ≠ K ∧ g ≠ G ∧ m ≤ g ∧ hs[i].l = (ds i).length ∧ OwnB w 0 (.slice (some ⟨g, 0, none⟩) hs[i].l hs[i].c) (ds i) := by
  have ho := h.hO i hi
  have hA := h.hA i hi
  have ho' := ho
  unfold OwnB HB.v at ho
  rcases ho.2 with ⟨h1, h2⟩ | ⟨g, cap, cur, h1, h2, h3, _⟩
  · injection h1 with h1 h4; omega
  · injection h1 with h1 h4 h5
    obtain ⟨a1, a2, a3, _⟩ := hA _ h1
    refine ⟨g, h1, (Array.getElem?_eq_some_iff.1 h3).1, a1, a2, a3, h4, ?_⟩
    unfold HB.v at ho'
    rw [h1] at ho'; exact ho'
/-- A cell of a list, written. -/
theorem set (h : BkSt m w K G kc hs ds) {i : Nat} (hi : i < hs.length) {g : Nat} (hg : hs[i].A = some ⟨g, 0, none⟩) (hl : hs[i].l = (ds i).length) (k : Nat) (x : UInt8) :
    BkSt m (w.setCell ⟨g, k, none⟩ (.int .u8 x.toNat)) K G kc hs (fun j => if j = i then (ds i).set k x else ds j) := by
  obtain ⟨a1, a2, a3, a4⟩ := h.hA i hi _ hg
  have hgr : w.grownBy (w.setCell ⟨g, k, none⟩ (.int .u8 x.toNat)) (some g) := grown_set _ _ _ _
  refine ⟨h.hK.grown hgr (Ne.symm a1), h.hG.grown hgr (Ne.symm a2), fun j hj => ?_, h.hA, h.hm, h.hn⟩
  by_cases e : j = i
  · subst e
    have ho := h.hO j hj
    rw [if_pos rfl]
    unfold OwnB HB.v at *
    rw [hg, hl] at *
    have := (World.ownsRow.stored ho k (.int .u8 x.toNat)).1
    rw [List.length_set]
    have e2 : u8s ((ds j).set k x) = (u8s (ds j)).set k (.int .u8 x.toNat) := by simp [u8s, List.map_set]
    rw [e2]; exact this
  · rw [if_neg e]
    refine (h.hO j hj).grown hgr ?_
    rw [HB.v, ownBlock_slice]
    intro hh
    rcases hA : hs[j].A with _ | q
    · rw [hA] at hh; cases hh
    · rw [hA] at hh
      injection hh with hh
      exact a4 j hj e q hA hh
end BkSt
theorem replicate_set (x : UInt8) (bs : List UInt8) (k : Nat) (hk : k < bs.length) : (List.replicate k x ++ bs.drop k).set k x = List.replicate (k + 1) x ++ bs.drop (k + 1) := by
  rw [List.set_append_right _ _ (by simp), List.length_replicate, Nat.sub_self, List.drop_eq_getElem_cons hk, List.set_cons_zero, List.replicate_succ', List.append_assoc]
  rfl
set_option maxRecDepth 100000 in
set_option maxHeartbeats 4000000 in
theorem fillByte_any {m K G cap : Nat} {w : World} {N : Value} {rest : List Value} {hs : List HB} {ds : Nat → List UInt8} (hcap : hs.length ≤ cap) (hlen : hs.length ≤ 1000000) (hd : ∀ i (hi : i < hs.length), hs[i].l = (ds i).length ∧ hs[i].l ≤ hs[i].c ∧ hs[i].l ≤ 9223372036854775807)
    (h : BkSt m w K G (N :: .slice (some ⟨G, 0, none⟩) hs.length cap :: rest) hs ds) (hmw : m ≤ w.heap.size) :
    Calls Tryd.prog 37 #[.pointer (some ⟨K, 0, none⟩)] w fun e w' => e = .returned (.tuple #[]) ∧ BkSt m w' K G (N :: .slice (some ⟨G, 0, none⟩) hs.length cap :: rest) hs (fun i => if hi : i < hs.length then marks hs[i] hs[i].l else ds i) ∧ Below m w w' := by
  have H := Lib.hid h
  have HD := Lib.hid hd
  clear h hd
  go_enter Tryd.func37, Tryd.ntmps37
  go_wp2_with fail
  go_loopw [2, 3, 4] (fun s2 s3 s4 wr => ∃ i : Nat, i ≤ hs.length ∧ s2 = .int .i64 i ∧ Hid (BkSt m wr K G (N :: .slice (some ⟨G, 0, none⟩) hs.length cap :: rest) hs (fun j => if hj : j < hs.length then (if j < i then marks hs[j] hs[j].l else ds j) else ds j)) ∧ Below m w wr) (fun s2 _ _ wr => hs.length - (intOf s2).toNat)
  case atStart => exact ⟨0, by omega, rfl, Lib.hid (H.out.same fun i hi => by simp), Below.refl _ _⟩
  case round =>
    rename World => wo
    obtain ⟨i, hi, rfl, hS, hb⟩ := hrel
    have hk1 : wo.cell? ⟨K, 1, none⟩ = some (.slice (some ⟨G, 0, none⟩) hs.length cap) := hS.out.hK.2.1 1
    by_cases hlt : i < hs.length
    · obtain ⟨r1, r2, r3⟩ := hS.out.hG.2.2 i hlt
      have hKl := hS.out.hK.1
      have hGl := hS.out.hG.1
      have hz0 := HD.out i hlt
      obtain ⟨hl1, hl2, hl3⟩ := hz0
      obtain ⟨x, hx⟩ : ∃ x : HB, hs[i] = x := ⟨_, rfl⟩
      have hxn : x.n ≤ 1000000 := by rw [← hx]; exact hS.out.hn i hlt
      rw [hx] at r1 r2 r3 hl1 hl2 hl3
      unfold HB.v at r1
      unfold HB.v2 at r2
      have HX := Lib.hid hx
      have HL1 := Lib.hid hl1
      clear hx hl1
      obtain ⟨a, l, c, L, l2, c2, nn⟩ := x
      dsimp only at r1 r2 r3 hl2 hl3 hxn
      go_wp2_with fail
      go_loopw [4] (fun s4 wx => ∃ k : Nat, k ≤ l ∧ s4 = .int .i64 k ∧ Hid (BkSt m wx K G (N :: .slice (some ⟨G, 0, none⟩) hs.length cap :: rest) hs (fun j => if hj : j < hs.length then (if j < i then marks hs[j] hs[j].l else if j = i then List.replicate k (mk8 nn) ++ (ds j).drop k else ds j) else ds j)) ∧ Hid (OwnL wx wo.heap.size [Value.slice a l c, .slice L l2 c2, .int .i64 nn]) ∧ Below m w wx) (fun s4 wx => l - (intOf s4).toNat)
      case atStart =>
        exact ⟨0, by omega, rfl, Lib.hid ((hS.out.below ((Below.refl _ _).alloc (Nat.le_refl _) _)).same fun j hj => by rw [dif_pos hj, dif_pos hj]; simp), Lib.hid (OwnL.made' _ _ _), hb.trans (((Below.refl _ _).alloc (Nat.le_refl _) _).mono (Nat.le_trans hmw hb.size))⟩
      case round =>
        obtain ⟨k, hk, rfl, hS2, hO2, hb2⟩ := hrel
        have c0 : wr.cell? ⟨wo.heap.size, 0, none⟩ = some (.slice a l c) := hO2.out.2.1 0
        have c2' : wr.cell? ⟨wo.heap.size, 2, none⟩ = some (.int .i64 nn) := hO2.out.2.1 2
        by_cases hlk : k < l
        · obtain ⟨g, hg, hg1, hg2, hg3, hg4, hg5, hg6⟩ := hS.out.at_ hlt (by rw [HX.out]; exact Nat.lt_of_le_of_lt (Nat.zero_le _) hlk)
          have hai : a = some ⟨g, 0, none⟩ := by rw [← hg, HX.out]
          obtain ⟨g', hg', _, _, _, _, h25, h26⟩ := hS2.out.at_ hlt (by rw [HX.out]; exact Nat.lt_of_le_of_lt (Nat.zero_le _) hlk)
          obtain rfl : g' = g := by rw [hg] at hg'; injection hg' with hg'; injection hg' with hg'; exact hg'.symm
          subst hai
          rw [HX.out] at h26
          obtain ⟨⟨y, hy⟩, hf⟩ := h26.cellf k hlk
          have hne : ¬ wo.heap.size = g' := by omega
          have hne2 : ¬ g' = wo.heap.size := by omega
          have HH := Lib.hid h25
          have HG := Lib.hid hg
          have hmg : m ≤ g' := hg4
          clear h25 h26 hg hg' hg4 hg5 hg6
          go_wp2_with fail
          go_region_held3 (fun wx => wx.cell? ⟨wo.heap.size, 0, none⟩ = some (.slice (some ⟨g', 0, none⟩) l c) ∧ wx.cell? ⟨wo.heap.size, 2, none⟩ = some (.int .i64 nn)) (first | exact ⟨c0, c2'⟩ | exact ⟨(World.cell?_setCell_other _ _ _ _ (by intro h; injection h with h; omega)).trans c0, (World.cell?_setCell_other _ _ _ _ (by intro h; injection h with h; omega)).trans c2'⟩) ((go_at_call 63; refine Calls.mono (markByte_any nn hxn _) ?_; rintro e w' ⟨rfl, rfl⟩))
          go_wp2_with fail
          go_roundw
          case rel =>
            refine ⟨k + 1, by omega, by go_num, Lib.hid (BkSt.same ((hS2.out.below ((Below.refl _ _).drew)).set hlt HG.out (by have := HH.out; simpa using this) k (mk8 nn)) ?_), Lib.hid ((hO2.out.trk' ((Below.refl _ _).drew)).grown (grown_set _ _ _ _) hne), (hb2.drew).setCell hmg _⟩
            intro j hj
            by_cases e : j = i
            · subst e
              have hl' : l = (ds j).length := by have := HL1.out; rw [← this]
              rw [if_pos rfl, dif_pos hj, dif_pos hj, if_neg (Nat.lt_irrefl _), if_neg (Nat.lt_irrefl _), if_pos rfl, if_pos rfl, replicate_set _ _ _ (by omega)]
            · rw [if_neg e, dif_pos hj, dif_pos hj, if_neg e, if_neg e]
          case measure => simp [intOf]; omega
        · obtain rfl : k = l := by omega
          go_wp2_with fail
          go_roundw
          case rel =>
            refine ⟨i + 1, by omega, by go_num, Lib.hid (hS2.out.same ?_), hb2⟩
            intro j hj
            have hl' : hs[i].l = (ds i).length := (HD.out i hlt).1
            have hx' := HX.out
            by_cases e : j = i
            · subst e
              rw [dif_pos hj, dif_pos hj, if_pos (Nat.lt_succ_self _), if_neg (Nat.lt_irrefl _), if_pos rfl, marks, hx', List.drop_of_length_le (by rw [← hl', hx']; exact Nat.le_refl _), List.append_nil]
            · rw [dif_pos hj, dif_pos hj, if_neg e]
              by_cases e2 : j < i
              · rw [if_pos e2, if_pos (by omega)]
              · rw [if_neg e2, if_neg (by omega)]
          case measure => simp [intOf]; omega
    · go_wp2_with fail
      go_end0
      obtain rfl : i = hs.length := by omega
      exact ⟨rfl, hS.out.same fun j hj => by rw [dif_pos hj, dif_pos hj, if_pos hj], hb⟩
end Go.Proofs.YtkaapdnjlmceoabDoor

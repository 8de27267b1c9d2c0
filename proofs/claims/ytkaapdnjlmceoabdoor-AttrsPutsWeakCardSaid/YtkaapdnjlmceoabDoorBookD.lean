/- A Book of bytes: growing, walked. -/
import Derived.Test.YtkaapdnjlmceoabDoorBookC
import Derived.Test.YtkaapdnjlmceoabDoorLaw1
set_option linter.unusedVariables false
set_option linter.unusedSimpArgs false
namespace Go.Proofs.YtkaapdnjlmceoabDoor
open Go.RowKit
/-- Where what grew lies: where it lay, or in a new block. -/
def Lies (A : Option Addr) (H0 : Nat) (v : Value) : Prop := ∀ g, v.ownBlock = some g → (∃ q, A = some q ∧ q.block = g) ∨ H0 < g
theorem grow_step {m B K G i H0 k : Nat} {W w' : World} {kc cs : List Value} {hs : List HB} {s4 v' : Value} (hi : i < hs.length) (hS : GrSt m B W K G kc hs i (i + 1)) (hO : OwnB W 0 s4 (marks hs[i] (hs[i].l + k)))
    (hbs : Bs W hs[i].A hs[i].l (marks hs[i] hs[i].l)) (hH : OwnL W H0 cs) (hB : B ≤ H0) (ha : ∀ p, hs[i].A = some p → p = ⟨p.block, 0, none⟩ ∧ p.block < H0) (hL0 : ∀ j (hj : j < hs.length), j < i → ∀ p, hs[j].L = some p → p.block < H0)
    (hw : Lies hs[i].A H0 s4) (hO' : OwnB w' 0 v' (marks hs[i] (hs[i].l + (k + 1)))) (hc : Came W s4 v' w') :
    GrSt m B w' K G kc hs i (i + 1) ∧ Bs w' hs[i].A hs[i].l (marks hs[i] hs[i].l) ∧ OwnL w' H0 cs ∧ Lies hs[i].A H0 v' ∧ Below m W w' := by
  obtain ⟨m1, m2, m3, m4, m5, m6⟩ := hS.hm
  rcases hc with ⟨hb, hv⟩ | ⟨g, hg, hv, hgr⟩
  · exact ⟨hS.below hb, hbs.below hb, hH.trk' hb, fun g hg => .inr (by rw [hv] at hg; injection hg with hg; have := hH.1; omega), hb.mono (by omega)⟩
  · have hneq : ∀ (hne : g ≠ H0), OwnL w' H0 cs := fun hne => hH.grown hgr (Ne.symm hne)
    have bel : m ≤ g → Below m W w' := fun hm => ⟨hgr.os, hgr.tape, hgr.output, hgr.size, fun j hj => hgr.block j (by omega) (by intro h; injection h with h; omega)⟩
    rcases hw g hg with ⟨q, hq, hqg⟩ | hgt
    · obtain ⟨a1, a2, a3, a4, a5⟩ := hS.hA i hi q hq
      obtain ⟨e1, e2⟩ := ha q hq
      rw [hqg] at a1 a2 a3 a4 a5 e1 e2
      refine ⟨hS.grown hgr (Ne.symm a1) (Ne.symm a2) (fun j hj hor p hp => a5 j hj (by omega) p hp) (fun j hj hij p hp => ?_), ?_, hneq (by omega), fun g' hg' => .inl ⟨q, hq, by rw [hv] at hg'; injection hg' with hg'; rw [hqg, hg']⟩, bel a3⟩
      · have := (hS.hL j hj hij p hp).2.2 i hi (Nat.le_refl _) q hq
        rw [hqg] at this; exact Ne.symm this
      · obtain ⟨A', c', hv', _, hb'⟩ := (fun (h : OwnB w' 0 v' (marks hs[i] (hs[i].l + (k + 1)))) => (by
          obtain ⟨A', c', e, h1, _, hb⟩ := h.reads
          rw [marks_length] at e hb h1
          exact ⟨A', c', e, h1, hb⟩ : ∃ A' c', v' = .slice A' (hs[i].l + (k + 1)) c' ∧ hs[i].l + (k + 1) ≤ c' ∧ Bs w' A' (hs[i].l + (k + 1)) (marks hs[i] (hs[i].l + (k + 1))))) hO'
        obtain ⟨g1, off, e3, _, _⟩ := hb'.2.2 (by omega)
        rw [hv'] at hv
        obtain ⟨p, e4, e5⟩ := ownBlock_at hv
        rw [hv'] at hO'
        have hz : A' = some ⟨g, 0, none⟩ := by
          unfold OwnB at hO'
          rcases hO'.2 with ⟨h1, _⟩ | ⟨g2, cap2, cur2, h1, _, _, _⟩
          · injection h1 with h1; rw [h1] at e4; cases e4
          · injection h1 with h1; rw [h1] at e4; injection e4 with e4; rw [h1, ← e5, ← e4]
        have hq' : hs[i].A = A' := by rw [hq, hz, e1]
        have := hb'.take hs[i].l (by omega)
        rw [marks_take _ _ _ (by omega)] at this
        rw [hq']; exact this
    · refine ⟨hS.grown hgr (by omega) (by omega) (fun j hj hor p hp => ?_) (fun j hj hij p hp => ?_), hbs.other hgr (fun p hp => ?_), hneq (by omega), fun g' hg' => .inr (by rw [hv] at hg'; injection hg' with hg'; omega), bel (by omega)⟩
      · have := (hS.hA j hj p hp).2.2.2.1; omega
      · have := hL0 j hj hij p hp; omega
      · have := (hS.hA i hi p hp).2.2.2.1; omega
theorem own_addr {w : World} {base l c : Nat} {A : Option Addr} {bs : List UInt8} (h : OwnB w base (.slice A l c) bs) (p : Addr) (hp : A = some p) : p = ⟨p.block, 0, none⟩ ∧ p.block < w.heap.size := by
  refine ⟨?_, h.inB hp⟩
  unfold OwnB at h
  rcases h.2 with ⟨h1, _⟩ | ⟨g2, cap2, cur2, h1, _, _, _⟩
  · injection h1 with h1; rw [h1] at hp; cases hp
  · injection h1 with h1; rw [h1] at hp; injection hp with hp; rw [← hp]
theorem Like.put {hs hs' : List HB} (h : Like hs hs') {i : Nat} (hi : i < hs'.length) (L : Option Addr) (l2 c2 : Nat) : Like hs (hs'.set i (hs'[i].to L l2 c2)) := by
  refine ⟨by rw [List.length_set]; exact h.1, fun j a b => ?_⟩
  rw [List.length_set] at b
  rw [List.getElem_set]
  by_cases e : i = j
  · subst e; rw [if_pos rfl]; exact h.2 i a b
  · rw [if_neg e]; exact h.2 j a b
set_option maxRecDepth 100000 in
set_option maxHeartbeats 4000000 in
theorem growByte_any {m B K G cap : Nat} {w : World} {N : Value} {rest : List Value} {hs : List HB} (hcap : hs.length ≤ cap) (hlen : hs.length ≤ 1000000)
    (h : GrSt m B w K G (N :: .slice (some ⟨G, 0, none⟩) hs.length cap :: rest) hs 0 0) :
    Calls Tryd.prog 44 #[.pointer (some ⟨K, 0, none⟩)] w fun e w' => e = .returned (.tuple #[]) ∧ ∃ hs', Like hs hs' ∧ GrSt m B w' K G (N :: .slice (some ⟨G, 0, none⟩) hs.length cap :: rest) hs' hs.length hs.length ∧ Below m w w' := by
  have hmB : m ≤ B := by have := h.hm; omega
  have H := Lib.hid h
  clear h
  go_enter Tryd.func44, Tryd.ntmps44
  go_wp2_with fail
  go_loopw [2, 3, 4, 5] (fun s2 s3 s4 s5 wr => ∃ i : Nat, i ≤ hs.length ∧ s2 = .int .i64 i ∧ Hid (∃ hs', Like hs hs' ∧ GrSt m B wr K G (N :: .slice (some ⟨G, 0, none⟩) hs.length cap :: rest) hs' i i) ∧ Below m w wr) (fun s2 _ _ _ wr => hs.length - (intOf s2).toNat)
  case atStart => exact ⟨0, by omega, rfl, Lib.hid ⟨hs, ⟨rfl, fun i a b => ⟨rfl, rfl, rfl, rfl⟩⟩, H.out⟩, Below.refl _ _⟩
  case round =>
    rename World => wo
    obtain ⟨i, hi, rfl, hH, hb⟩ := hrel
    obtain ⟨hs', hL, hS⟩ := hH.out
    have HL := Lib.hid hL
    have HS := Lib.hid hS
    have hk1 : wo.cell? ⟨K, 1, none⟩ = some (.slice (some ⟨G, 0, none⟩) hs.length cap) := hS.hK.2.1 1
    have hln := hL.1
    clear hH hL hS
    by_cases hlt : i < hs.length
    · have hlt' : i < hs'.length := by omega
      obtain ⟨r1, r2, r3⟩ := HS.out.hG.2.2 i hlt'
      obtain ⟨hxn, hxc, hxl⟩ := HS.out.hn i hlt'
      have HO := Lib.hid (HS.out.hO i hlt' (Nat.le_refl _))
      have HA := Lib.hid (own_addr HO.out)
      have HLn := Lib.hid hln
      clear hln
      obtain ⟨x, hx⟩ : ∃ x : HB, hs'[i] = x := ⟨_, rfl⟩
      have HX := Lib.hid hx
      rw [hx] at r1 r2 r3 hxn hxc hxl HO HA
      clear hx
      have hHz : B ≤ wo.heap.size := HS.out.hm.2.2.2.2.2
      obtain ⟨a, l, c, L, l2, c2, nn⟩ := x
      unfold HB.v at r1 HO
      unfold HB.v2 at r2
      dsimp only at r1 r2 r3 hxn hxc hxl
      go_wp2_with fail
      go_loopw [4, 5] (fun s4 s5 wx => ∃ k : Nat, k ≤ 40 ∧ s5 = .int .i64 k ∧ OwnB wx 0 s4 (marks ⟨a, l, c, L, l2, c2, nn⟩ (l + k)) ∧ Hid (GrSt m B wx K G (N :: .slice (some ⟨G, 0, none⟩) hs.length cap :: rest) hs' i (i + 1)) ∧ Hid (Bs wx a l (marks ⟨a, l, c, L, l2, c2, nn⟩ l)) ∧ Hid (OwnL wx wo.heap.size [Value.slice a l c, .slice L l2 c2, .int .i64 nn]) ∧ Hid (Lies a wo.heap.size s4) ∧ Below m w wx) (fun _ s5 wx => 40 - (intOf s5).toNat)
      case atStart =>
        have hbA := (Below.refl wo.heap.size wo).alloc (Nat.le_refl _) (.cells #[Value.slice a l c, .slice L l2 c2, .int .i64 nn] 81)
        have hS1 := HS.out.below hbA
        refine ⟨0, by omega, rfl, HO.out.below hbA, Lib.hid ⟨hS1.hK, hS1.hG, fun j hj hij => hS1.hO j hj (by omega), hS1.hD, hS1.hA, hS1.hL, hS1.hm, hS1.hn⟩, Lib.hid ((HO.out.below hbA).bs').1, Lib.hid (OwnL.made' _ _ _), Lib.hid ?_, hb.trans (hbA.mono (by omega))⟩
        intro g hg
        obtain ⟨p, e1, e2⟩ := ownBlock_at hg
        exact .inl ⟨p, e1, e2⟩
      case round =>
        obtain ⟨k, hk, rfl, hO2, hS2, hB2, hH2, hW2, hb2⟩ := hrel
        have c2' : wr.cell? ⟨wo.heap.size, 2, none⟩ = some (.int .i64 nn) := hH2.out.2.1 2
        have hzz : wo.heap.size < wr.heap.size := hH2.out.1
        by_cases hlk : k < 40
        · go_wp2_with (first
            | (go_at_call 63; refine Calls.mono (markByte_any nn hxn _) ?_; rintro e w' ⟨rfl, rfl⟩)
            | (at_builtin; refine wp_append_two rfl _ _ rfl rfl rfl (hO2.alloc _) (OwnB.one _ _) (by simp) (by rw [marks_length]; simp; omega) (by omega) ?_; intro v' w3 hO3 hc3))
          have hO3' : OwnB w3 0 v' (marks ⟨a, l, c, L, l2, c2, nn⟩ (l + (k + 1))) := by
            have := hO3
            rwa [show marks ⟨a, l, c, L, l2, c2, nn⟩ (l + k) ++ [mk8 nn] = marks ⟨a, l, c, L, l2, c2, nn⟩ (l + (k + 1)) from marks_snoc ⟨a, l, c, L, l2, c2, nn⟩ (l + k)] at this
          have hal := (Below.refl wr.heap.size wr).alloc (Nat.le_refl _) (.cells #[Value.int .u8 (mk8 nn).toNat] 5)
          obtain ⟨g1, g2, g3, g4, g5⟩ := grow_step (hs := hs') (i := i) (k := k) hlt' (hS2.out.below hal) (by rw [HX.out]; exact hO2.below hal) (by rw [HX.out]; exact hB2.out.below hal) (hH2.out.trk' hal) hHz (by rw [HX.out]; exact HA.out) (fun j hj hij p hp => (HS.out.hD j hj hij).2.1.inB (by omega) hp) (by rw [HX.out]; exact hW2.out) (by rw [HX.out]; exact hO3') hc3
          rw [HX.out] at g2 g4
          go_roundw
          case rel => exact ⟨k + 1, by omega, by go_num, hO3', Lib.hid g1, Lib.hid g2, Lib.hid g3, Lib.hid g4, hb2.trans ((hal.mono (by omega)).trans g5)⟩
          case measure => simp [intOf]; omega
        · obtain rfl : k = 40 := by omega
          obtain ⟨A', c', hv, hc', hB'⟩ : ∃ A' c', u4 = .slice A' (l + 40) c' ∧ l + 40 ≤ c' ∧ Bs wr A' (l + 40) (marks ⟨a, l, c, L, l2, c2, nn⟩ (l + 40)) := by
            obtain ⟨A', c', e, h1, _, hb⟩ := hO2.reads
            rw [marks_length] at e hb h1
            exact ⟨A', c', e, h1, hb⟩
          subst hv
          have hk2 : wr.cell? ⟨K, 1, none⟩ = some (.slice (some ⟨G, 0, none⟩) hs.length cap) := hS2.out.hK.2.1 1
          obtain ⟨q1, q2, q3⟩ := hS2.out.hG.2.2 i hlt'
          have q4 := hS2.out.hG.2.1
          have HP := Lib.hid (GrSt.put (L := A') (c2 := c') hS2.out hlt' (by rw [HX.out]; exact hc') (by rw [HX.out]; exact hB2.out) (by rw [HX.out]; exact hB') (by
            rw [HX.out]
            intro p hp
            rcases hW2.out p.block (by rw [hp]; rfl) with h1 | h1
            · exact .inl h1
            · exact .inr (by omega)))
          have hmG : m ≤ G := HS.out.hm.2.1
          go_wp2_with fail
          go_roundw
          case rel =>
            refine ⟨i + 1, by omega, by go_num, Lib.hid ⟨_, HL.out.put hlt' A' (l + 40) c', ?_⟩, hb2.setCell hmG _⟩
            have := HP.out
            rw [HX.out] at this ⊢
            exact this
          case measure => simp [intOf]; omega
    · obtain rfl : i = hs.length := by omega
      go_wp2_with fail
      go_end0
      exact ⟨rfl, hs', HL.out, HS.out, hb⟩
end Go.Proofs.YtkaapdnjlmceoabDoor

/- The document's Reader of parts: it stops at its first error. Printed by gen_rread.py. -/
import Derived.Test.YtkaapdnjlmceoaaRefGet
import Derived.Test.YtkaapdnjlmceoaaRHadC
set_option linter.unusedVariables false
set_option linter.unusedSimpArgs false
namespace Go.Proofs.Ytkaapdnjlmceoaa
open Go.RowKit
/-- What a Get comes to: the value, or zero; and the error, or none. -/
def outP {α : Type} (p : Ps α) (z : α) (b : List UInt8) : α × Int := match p b with | .ok (v, _) => (v, 0) | .error e => (z, e)
theorem outP_ok {α : Type} {p : Ps α} {z v : α} {b : List UInt8} {k : Nat} (h : p b = .ok (v, k)) : outP p z b = (v, 0) := by rw [outP, h]
theorem outP_bad {α : Type} {p : Ps α} {z : α} {b : List UInt8} {e : Int} (h : p b = .error e) : outP p z b = (z, e) := by rw [outP, h]
section
variable {A : Option Addr} {n cap : Nat} {xs : List UInt8} {w : World}
theorem RGet32 (hB : Bs w A n xs) (hc : n ≤ cap) : Calls Try.prog 57 #[.slice A n cap] w fun e w' => e = .returned (.tuple #[eNum (outP pNum 0 xs).1, .int .i64 (outP pNum 0 xs).2]) ∧ w = w' := by
  by_cases hs : n < 4
  · rw [outP_bad (e := 4) (by simp [pNum, hB.1, hs])]; exact RGet_short _ _ _ _ hs
  · rw [outP_ok (v := beN (xs.take 4)) (k := 4) (by simp [pNum, hB.1, hs])]; exact RGet_full _ _ _ _ _ hB hc (by omega)
theorem RGet64 (hB : Bs w A n xs) (hc : n ≤ cap) : Calls Try.prog 58 #[.slice A n cap] w fun e w' => e = .returned (.tuple #[eLong (outP pLong 0 xs).1, .int .i64 (outP pLong 0 xs).2]) ∧ w = w' := by
  by_cases hs : n < 8
  · rw [outP_bad (e := 4) (by simp [pLong, hB.1, hs])]; exact RGetLong_short _ _ _ _ hs
  · rw [outP_ok (v := beN (xs.take 8)) (k := 8) (by simp [pLong, hB.1, hs])]; exact RGetLong_full _ _ _ _ _ hB hc (by omega)
set_option maxRecDepth 100000 in
set_option maxHeartbeats 2000000 in
theorem RGetY (hB : Bs w A n xs) (hc : n ≤ cap) : Calls Try.prog 90 #[.slice A n cap] w fun e w' => e = .returned (.tuple #[eYes (outP pYes false xs).1, .int .i64 (outP pYes false xs).2]) ∧ w = w' := by
  have HB := Lib.hid hB
  by_cases hs : n < 4
  · rw [outP_bad (e := 4) (by simp [pYes, hB.1, hs])]
    have HG := Lib.hid (fun w => RGet_short A n cap w hs)
    clear hB hs
    simp only [eYes]
    go_enter Try.func90, Try.ntmps90
    go_wp2_with (go_at_call 57; refine Calls.mono (HG.out _) ?_; rintro e w1 ⟨rfl, rfl⟩)
    go_ret2
    exact ⟨rfl, rfl⟩
  · have HG := Lib.hid (fun w h => RGet_full A n cap xs w h hc (by omega))
    have hl : ¬ xs.length < 4 := by rw [hB.1]; exact hs
    by_cases h1 : beN (xs.take 4) > 1
    · rw [outP_bad (e := 5) (by simp only [pYes, if_neg hl, if_pos h1])]
      have hd : decide ((1 : Int) < ((beN (xs.take 4) : Nat) : Int)) = true := by simp; omega
      clear hB hs hl
      generalize beN (xs.take 4) = m at HG h1 hd
      clear h1
      simp only [eYes]
      go_enter Try.func90, Try.ntmps90
      go_wp2_with (go_at_call 57; refine Calls.mono (HG.out _ HB.out) ?_; rintro e w1 ⟨rfl, rfl⟩)
      go_ret2
      exact ⟨rfl, rfl⟩
    · rw [outP_ok (v := beN (xs.take 4) == 1) (k := 4) (by simp only [pYes, if_neg hl, if_neg h1])]
      have hd : decide ((1 : Int) < ((beN (xs.take 4) : Nat) : Int)) = false := by simp; omega
      have he : ((((beN (xs.take 4) : Nat) : Int)) == 1) = (beN (xs.take 4) == 1) := by rw [Bool.eq_iff_iff, beq_iff_eq, beq_iff_eq]; omega
      clear hB hs hl
      generalize beN (xs.take 4) = m at HG h1 hd he
      generalize (m == 1) = c at he
      clear h1
      simp only [eYes]
      go_enter Try.func90, Try.ntmps90
      go_wp2_with (go_at_call 57; refine Calls.mono (HG.out _ HB.out) ?_; rintro e w1 ⟨rfl, rfl⟩)
      go_ret2
      exact ⟨rfl, rfl⟩
end
/-- The document's Reader's block: the bytes, how far it is, its first error. -/
def RRB (w : World) (R : Nat) (A : Option Addr) (n cap at_ : Nat) (er : Int) : Prop := w.heap[R]? = some (.cells #[.slice A n cap, .int .i64 at_, .int .i64 er] 81 (0, 0))
namespace RRB
variable {w w' : World} {R : Nat} {A : Option Addr} {n cap k : Nat} {er : Int}
theorem lt (h : RRB w R A n cap k er) : R < w.heap.size := (Array.getElem?_eq_some_iff.1 h).1
theorem b (h : RRB w R A n cap k er) : w.cell? ⟨R, 0, none⟩ = some (.slice A n cap) := by simp [World.cell?, show w.heap[R]? = _ from h]
theorem at_ (h : RRB w R A n cap k er) : w.cell? ⟨R, 1, none⟩ = some (.int .i64 k) := by simp [World.cell?, show w.heap[R]? = _ from h]
theorem e (h : RRB w R A n cap k er) : w.cell? ⟨R, 2, none⟩ = some (.int .i64 er) := by simp [World.cell?, show w.heap[R]? = _ from h]
theorem free (h : RRB w R A n cap k er) (j : Nat) : w.frozen? ⟨R, j, none⟩ = false := by simp [World.frozen?, show w.heap[R]? = _ from h]
theorem setAt (h : RRB w R A n cap k er) (m : Nat) : RRB (w.setCell ⟨R, 1, none⟩ (.int .i64 m)) R A n cap m er := by
  have hlt := h.lt
  unfold RRB at h ⊢
  show (w.heap.modify R _)[R]? = _
  have h' : w.heap[R] = _ := (Array.getElem?_eq_some_iff.1 h).2
  rw [Array.getElem?_eq_getElem (by simpa using hlt), Array.getElem_modify_self, h']
  rfl
theorem setE (h : RRB w R A n cap k er) (m : Int) : RRB (w.setCell ⟨R, 2, none⟩ (.int .i64 m)) R A n cap k m := by
  have hlt := h.lt
  unfold RRB at h ⊢
  show (w.heap.modify R _)[R]? = _
  have h' : w.heap[R] = _ := (Array.getElem?_eq_some_iff.1 h).2
  rw [Array.getElem?_eq_getElem (by simpa using hlt), Array.getElem_modify_self, h']
  rfl
theorem below (h : RRB w R A n cap k er) (hb : Below w.heap.size w w') : RRB w' R A n cap k er := (hb.block R h.lt).trans h
theorem other (h : RRB w R A n cap k er) {p : Addr} (hp : R ≠ p.block) (v : Value) : RRB (w.setCell p v) R A n cap k er := (Below.heap_setCell _ _ _ _ hp).trans h
theorem alloc (h : RRB w R A n cap k er) (o : Obj) : RRB (w.alloc o) R A n cap k er := h.below ((Below.refl _ _).alloc (Nat.le_refl _) o)
theorem drew (h : RRB w R A n cap k er) : RRB w.drew R A n cap k er := h
theorem drewN (h : RRB w R A n cap k er) (m : Nat) : RRB (w.drewN m) R A n cap k er := h
end RRB
theorem Bs.rturn {w w' : World} {A B : Option Addr} {n m cap k R : Nat} {er : Int} {xs : List UInt8} (h : Bs w A n xs) (hr : RRB w R B m cap k er) (hg : w.grownBy w' (some R)) : Bs w' A n xs := by
  refine ⟨h.1, h.2.1, fun hn => ?_⟩
  obtain ⟨b, off, e, hl, hc⟩ := h.2.2 hn
  have hne : b ≠ R := by
    rintro rfl
    have h0 := hc 0 hn
    have hb : w.heap[b]? = _ := hr
    simp only [World.cell?, hb] at h0
    match off, h0 with
    | 0, h0 => simp at h0
    | 1, h0 => simp at h0
    | 2, h0 => simp at h0
    | k + 3, h0 => simp at h0
  refine ⟨b, off, e, Nat.lt_of_lt_of_le hl hg.size, fun j hj => ?_⟩
  rw [World.cell?_of_block (a := ⟨b, off + j, none⟩) (hg.block b hl (by simpa using hne))]
  exact hc j hj
/-- What a part of the document's reading comes to. -/
def RRPost {α : Type} (p : Ps α) (enc : α → Value) (z : α) (R : Nat) (A : Option Addr) (n cap at_ : Nat) (xs : List UInt8) (w : World) (e : Ending) (w' : World) : Prop :=
  w.grownBy w' (some R) ∧ ((∃ v k, p (xs.drop at_) = .ok (v, k) ∧ at_ + k ≤ n ∧ e = .returned (enc v) ∧ RRB w' R A n cap (at_ + k) 0) ∨
  (∃ er, p (xs.drop at_) = .error er ∧ er ≠ 0 ∧ e = .returned (enc z) ∧ RRB w' R A n cap at_ er))
section
variable {R : Nat} {A : Option Addr} {n cap k : Nat} {xs : List UInt8} {w : World} {er : Int}
theorem pNum_len {b : List UInt8} {v j : Nat} (h : pNum b = .ok (v, j)) {k n : Nat} (hl : b.length = n - k ∧ k ≤ n) : j = 4 ∧ k + 4 ≤ n := by
  simp only [pNum] at h
  split at h
  · cases h
  · injection h with h; injection h with h1 h2; exact ⟨h2.symm, by omega⟩
theorem pLong_len {b : List UInt8} {v j : Nat} (h : pLong b = .ok (v, j)) {k n : Nat} (hl : b.length = n - k ∧ k ≤ n) : j = 8 ∧ k + 8 ≤ n := by
  simp only [pLong] at h
  split at h
  · cases h
  · injection h with h; injection h with h1 h2; exact ⟨h2.symm, by omega⟩
theorem pYes_len {b : List UInt8} {v : Bool} {j : Nat} (h : pYes b = .ok (v, j)) {k n : Nat} (hl : b.length = n - k ∧ k ≤ n) : j = 4 ∧ k + 4 ≤ n := by
  simp only [pYes] at h
  split at h
  · cases h
  · split at h
    · cases h
    · injection h with h; injection h with h1 h2; exact ⟨h2.symm, by omega⟩
theorem pNum_err {b : List UInt8} {er : Int} (h : pNum b = .error er) : er ≠ 0 := by
  simp only [pNum] at h
  split at h
  · injection h with h; omega
  · cases h
theorem pLong_err {b : List UInt8} {er : Int} (h : pLong b = .error er) : er ≠ 0 := by
  simp only [pLong] at h
  split at h
  · injection h with h; omega
  · cases h
theorem pYes_err {b : List UInt8} {er : Int} (h : pYes b = .error er) : er ≠ 0 := by
  simp only [pYes] at h
  split at h
  · injection h with h; omega
  · split at h
    · injection h with h; omega
    · cases h

set_option maxRecDepth 100000 in
set_option maxHeartbeats 2000000 in
theorem RRNumber_dead (hR : RRB w R A n cap k er) (he : er ≠ 0) : Calls Try.prog 68 #[.pointer (some ⟨R, 0, none⟩)] w fun e w' => e = .returned (eNum 0) ∧ w = w' := by
  have h2 := hR.e
  have he : (er == 0) = false := beq_eq_false_iff_ne.2 he
  clear hR
  simp only [eNum]
  go_enter Try.func68, Try.ntmps68
  go_wp2
  go_ret
  exact ⟨rfl, rfl⟩
set_option maxRecDepth 100000 in
set_option maxHeartbeats 4000000 in
theorem RRNumber (hR : RRB w R A n cap k 0) (hB : Bs w A n xs) (hc : n ≤ cap) (hk : k ≤ n) :
    Calls Try.prog 68 #[.pointer (some ⟨R, 0, none⟩)] w (RRPost pNum eNum 0 R A n cap k xs w) := by
  have h0 := hR.b; have h1 := hR.at_; have h2 := hR.e; have hf1 := hR.free 1; have hf2 := hR.free 2
  have hn := hB.2.1
  have HR := Lib.hid hR; have HB := Lib.hid hB
  obtain ⟨A', m, c', hD, hmc, hm, hcase⟩ := hB.rest hc hk
  have HD := Lib.hid hD
  have HG := Lib.hid (fun (w : World) (h : Bs w A' m (xs.drop k)) => RGet32 h hmc)
  have hB1 := Lib.hid hB.1
  clear hR hB hD
  rcases hp : pNum (xs.drop k) with er | ⟨v, j⟩
  · rw [outP_bad hp] at HG
    have he0 : er ≠ 0 := pNum_err hp
    have he : (er == 0) = false := beq_eq_false_iff_ne.2 he0
    have HP := Lib.hid hp; have HE := Lib.hid he0
    clear hp he0
    rcases hcase with ⟨hck, rfl, rfl, rfl⟩ | ⟨rfl, rfl, rfl, rfl, rfl⟩
    · have hne : ¬ cap = k := by omega
      go_enter Try.func68, Try.ntmps68
      go_wp2_with fail
      go_quiet ((go_at_call 57; refine (HG.out _ (HD.out.drewN _)).mono ?_; rintro e w' ⟨rfl, rfl⟩; exact ⟨rfl, _, rfl⟩))
      simp only [eNum]
      go_wp2
      go_ret
      exact ⟨(grown_drewN w nq (some R)).trans (grown_set _ R 2 _), .inr ⟨er, HP.out, HE.out, rfl, (RRB.drewN HR.out nq).setE er⟩⟩
    · clear hm hmc hc hk
      go_enter Try.func68, Try.ntmps68
      go_wp2_with fail
      go_quiet ((go_at_call 57; refine (HG.out _ (HD.out.drewN _)).mono ?_; rintro e w' ⟨rfl, rfl⟩; exact ⟨rfl, _, rfl⟩))
      simp only [eNum]
      go_wp2
      go_ret
      exact ⟨(grown_drewN w nq (some R)).trans (grown_set _ R 2 _), .inr ⟨er, HP.out, HE.out, rfl, (RRB.drewN HR.out nq).setE er⟩⟩
  · rw [outP_ok hp] at HG
    obtain ⟨rfl, hkn⟩ : j = 4 ∧ k + 4 ≤ n := pNum_len hp ⟨by rw [List.length_drop, hB1.out], hk⟩
    have HP := Lib.hid hp
    clear hp
    rcases hcase with ⟨hck, rfl, rfl, rfl⟩ | ⟨rfl, rfl, rfl, rfl, rfl⟩
    · have hne : ¬ cap = k := by omega
      go_enter Try.func68, Try.ntmps68
      go_wp2_with fail
      go_quiet ((go_at_call 57; refine (HG.out _ (HD.out.drewN _)).mono ?_; rintro e w' ⟨rfl, rfl⟩; exact ⟨rfl, _, rfl⟩))
      simp only [eNum]
      go_wp2
      go_ret
      refine ⟨((grown_drewN w nq (some R)).trans (grown_set _ R 2 _)).trans (grown_set _ R 1 _), .inl ⟨v, 4, HP.out, hkn, rfl, ((RRB.drewN HR.out nq).setE 0).setAt (k + 4)⟩⟩
    · omega

set_option maxRecDepth 100000 in
set_option maxHeartbeats 2000000 in
theorem RRLong_dead (hR : RRB w R A n cap k er) (he : er ≠ 0) : Calls Try.prog 70 #[.pointer (some ⟨R, 0, none⟩)] w fun e w' => e = .returned (eLong 0) ∧ w = w' := by
  have h2 := hR.e
  have he : (er == 0) = false := beq_eq_false_iff_ne.2 he
  clear hR
  simp only [eLong]
  go_enter Try.func70, Try.ntmps70
  go_wp2
  go_ret
  exact ⟨rfl, rfl⟩
set_option maxRecDepth 100000 in
set_option maxHeartbeats 4000000 in
theorem RRLong (hR : RRB w R A n cap k 0) (hB : Bs w A n xs) (hc : n ≤ cap) (hk : k ≤ n) :
    Calls Try.prog 70 #[.pointer (some ⟨R, 0, none⟩)] w (RRPost pLong eLong 0 R A n cap k xs w) := by
  have h0 := hR.b; have h1 := hR.at_; have h2 := hR.e; have hf1 := hR.free 1; have hf2 := hR.free 2
  have hn := hB.2.1
  have HR := Lib.hid hR; have HB := Lib.hid hB
  obtain ⟨A', m, c', hD, hmc, hm, hcase⟩ := hB.rest hc hk
  have HD := Lib.hid hD
  have HG := Lib.hid (fun (w : World) (h : Bs w A' m (xs.drop k)) => RGet64 h hmc)
  have hB1 := Lib.hid hB.1
  clear hR hB hD
  rcases hp : pLong (xs.drop k) with er | ⟨v, j⟩
  · rw [outP_bad hp] at HG
    have he0 : er ≠ 0 := pLong_err hp
    have he : (er == 0) = false := beq_eq_false_iff_ne.2 he0
    have HP := Lib.hid hp; have HE := Lib.hid he0
    clear hp he0
    rcases hcase with ⟨hck, rfl, rfl, rfl⟩ | ⟨rfl, rfl, rfl, rfl, rfl⟩
    · have hne : ¬ cap = k := by omega
      go_enter Try.func70, Try.ntmps70
      go_wp2_with fail
      go_quiet ((go_at_call 58; refine (HG.out _ (HD.out.drewN _)).mono ?_; rintro e w' ⟨rfl, rfl⟩; exact ⟨rfl, _, rfl⟩))
      simp only [eLong]
      go_wp2
      go_ret
      exact ⟨(grown_drewN w nq (some R)).trans (grown_set _ R 2 _), .inr ⟨er, HP.out, HE.out, rfl, (RRB.drewN HR.out nq).setE er⟩⟩
    · clear hm hmc hc hk
      go_enter Try.func70, Try.ntmps70
      go_wp2_with fail
      go_quiet ((go_at_call 58; refine (HG.out _ (HD.out.drewN _)).mono ?_; rintro e w' ⟨rfl, rfl⟩; exact ⟨rfl, _, rfl⟩))
      simp only [eLong]
      go_wp2
      go_ret
      exact ⟨(grown_drewN w nq (some R)).trans (grown_set _ R 2 _), .inr ⟨er, HP.out, HE.out, rfl, (RRB.drewN HR.out nq).setE er⟩⟩
  · rw [outP_ok hp] at HG
    obtain ⟨rfl, hkn⟩ : j = 8 ∧ k + 8 ≤ n := pLong_len hp ⟨by rw [List.length_drop, hB1.out], hk⟩
    have HP := Lib.hid hp
    clear hp
    rcases hcase with ⟨hck, rfl, rfl, rfl⟩ | ⟨rfl, rfl, rfl, rfl, rfl⟩
    · have hne : ¬ cap = k := by omega
      go_enter Try.func70, Try.ntmps70
      go_wp2_with fail
      go_quiet ((go_at_call 58; refine (HG.out _ (HD.out.drewN _)).mono ?_; rintro e w' ⟨rfl, rfl⟩; exact ⟨rfl, _, rfl⟩))
      simp only [eLong]
      go_wp2
      go_ret
      refine ⟨((grown_drewN w nq (some R)).trans (grown_set _ R 2 _)).trans (grown_set _ R 1 _), .inl ⟨v, 8, HP.out, hkn, rfl, ((RRB.drewN HR.out nq).setE 0).setAt (k + 8)⟩⟩
    · omega

set_option maxRecDepth 100000 in
set_option maxHeartbeats 2000000 in
theorem RRYes_dead (hR : RRB w R A n cap k er) (he : er ≠ 0) : Calls Try.prog 67 #[.pointer (some ⟨R, 0, none⟩)] w fun e w' => e = .returned (eYes false) ∧ w = w' := by
  have h2 := hR.e
  have he : (er == 0) = false := beq_eq_false_iff_ne.2 he
  clear hR
  simp only [eYes]
  go_enter Try.func67, Try.ntmps67
  go_wp2
  go_ret
  exact ⟨rfl, rfl⟩
set_option maxRecDepth 100000 in
set_option maxHeartbeats 4000000 in
theorem RRYes (hR : RRB w R A n cap k 0) (hB : Bs w A n xs) (hc : n ≤ cap) (hk : k ≤ n) :
    Calls Try.prog 67 #[.pointer (some ⟨R, 0, none⟩)] w (RRPost pYes eYes false R A n cap k xs w) := by
  have h0 := hR.b; have h1 := hR.at_; have h2 := hR.e; have hf1 := hR.free 1; have hf2 := hR.free 2
  have hn := hB.2.1
  have HR := Lib.hid hR; have HB := Lib.hid hB
  obtain ⟨A', m, c', hD, hmc, hm, hcase⟩ := hB.rest hc hk
  have HD := Lib.hid hD
  have HG := Lib.hid (fun (w : World) (h : Bs w A' m (xs.drop k)) => RGetY h hmc)
  have hB1 := Lib.hid hB.1
  clear hR hB hD
  rcases hp : pYes (xs.drop k) with er | ⟨v, j⟩
  · rw [outP_bad hp] at HG
    have he0 : er ≠ 0 := pYes_err hp
    have he : (er == 0) = false := beq_eq_false_iff_ne.2 he0
    have HP := Lib.hid hp; have HE := Lib.hid he0
    clear hp he0
    rcases hcase with ⟨hck, rfl, rfl, rfl⟩ | ⟨rfl, rfl, rfl, rfl, rfl⟩
    · have hne : ¬ cap = k := by omega
      go_enter Try.func67, Try.ntmps67
      go_wp2_with fail
      go_quiet ((go_at_call 90; refine (HG.out _ (HD.out.drewN _)).mono ?_; rintro e w' ⟨rfl, rfl⟩; exact ⟨rfl, _, rfl⟩))
      simp only [eYes]
      go_wp2
      go_ret
      exact ⟨(grown_drewN w nq (some R)).trans (grown_set _ R 2 _), .inr ⟨er, HP.out, HE.out, rfl, (RRB.drewN HR.out nq).setE er⟩⟩
    · clear hm hmc hc hk
      go_enter Try.func67, Try.ntmps67
      go_wp2_with fail
      go_quiet ((go_at_call 90; refine (HG.out _ (HD.out.drewN _)).mono ?_; rintro e w' ⟨rfl, rfl⟩; exact ⟨rfl, _, rfl⟩))
      simp only [eYes]
      go_wp2
      go_ret
      exact ⟨(grown_drewN w nq (some R)).trans (grown_set _ R 2 _), .inr ⟨er, HP.out, HE.out, rfl, (RRB.drewN HR.out nq).setE er⟩⟩
  · rw [outP_ok hp] at HG
    obtain ⟨rfl, hkn⟩ : j = 4 ∧ k + 4 ≤ n := pYes_len hp ⟨by rw [List.length_drop, hB1.out], hk⟩
    have HP := Lib.hid hp
    clear hp
    rcases hcase with ⟨hck, rfl, rfl, rfl⟩ | ⟨rfl, rfl, rfl, rfl, rfl⟩
    · have hne : ¬ cap = k := by omega
      go_enter Try.func67, Try.ntmps67
      go_wp2_with fail
      go_quiet ((go_at_call 90; refine (HG.out _ (HD.out.drewN _)).mono ?_; rintro e w' ⟨rfl, rfl⟩; exact ⟨rfl, _, rfl⟩))
      simp only [eYes]
      go_wp2
      go_ret
      refine ⟨((grown_drewN w nq (some R)).trans (grown_set _ R 2 _)).trans (grown_set _ R 1 _), .inl ⟨v, 4, HP.out, hkn, rfl, ((RRB.drewN HR.out nq).setE 0).setAt (k + 4)⟩⟩
    · omega
end
end Go.Proofs.Ytkaapdnjlmceoaa

/- parts: the Road; Must. -/
import Derived.Test.YtgmhapjidbdhnaaGreatJG
import Derived.Laws.Bits128
import Derived.ScopeJumps
import Derived.WalkMore
import Derived.Laws.BytesArg
import Derived.Laws.IdiomStrings
import Derived.Laws.MakeOwn
import Derived.Test.YtgmhapjidbdhnaaGreatJA
import Derived.Deep.QuietTactic
import Derived.BigQuiet
import Derived.Test.YtgmhapjidbdhnaaGreatJD
import Derived.Laws.AppendOwnNone
set_option linter.unusedVariables false
set_option linter.unusedSimpArgs false
namespace Go.Proofs.YtgmhapjidbdhnaaGreat
open Go.RowKit
theorem i64_and3 (n : Int) : bits .and .i64 n 3 = n % 4 := by
  have h3 : (BitVec.ofInt 64 3).toNat = 2 ^ 2 - 1 := by decide
  have key : (BitVec.ofInt 64 n &&& BitVec.ofInt 64 3).toNat = (n % ((2 ^ 64 : Nat) : Int)).toNat % 2 ^ 2 := by
    rw [BitVec.toNat_and, BitVec.toNat_ofInt, h3, Nat.and_two_pow_sub_one_eq_mod]
  show IntKind.i64.wrap ((BitVec.ofInt 64 n &&& BitVec.ofInt 64 3).toNat : Nat) = n % 4
  rw [key, IntKind.wrap_i64]
  omega
theorem pad_w (n : Nat) : bits .and .i64 (-(n : Int)) 3 = ((padN n : Nat) : Int) := by
  rw [i64_and3]; unfold padN; omega
set_option maxRecDepth 100000 in
theorem Pad_any (n : Nat) (hn : n ≤ 1099511627776) (w : World) : Calls Tryz.prog 52 #[.int .i64 n] w fun e w' => e = .returned (.int .i64 (padN n : Nat)) ∧ w = w' := by
  have hp := pad_w n
  have h0 : ¬ ((n : Int) < 0) := by omega
  go_enter Tryz.func52, Tryz.ntmps52
  go_wp2
  go_ret
  exact ⟨rfl, rfl⟩
/-- What cut comes to. -/
def CutPost (n : Nat) (xs : List UInt8) (w : World) (e : Ending) (w' : World) : Prop :=
  w = w' ∧ ((∃ ys j v', pCut n xs = .ok (ys, j) ∧ j = n + padN n ∧ ys.length = n ∧ e = .returned (.tuple #[v', .int .i64 0]) ∧ Rd w v' ys) ∨ ∃ er, pCut n xs = .error er ∧ er ≠ 0 ∧ e = .returned (.tuple #[.slice none 0 0, .int .i64 er]))
theorem pCut_zeros {n : Nat} {xs : List UInt8} (hl : n + padN n ≤ xs.length) (h : ∀ j, n ≤ j → j < n + padN n → xs.getD j 0 = 0) : pCut n xs = .ok (xs.take n, n + padN n) := by
  rw [pCut, if_neg (by omega), if_pos]
  apply List.ext_getElem
  · simp; omega
  · intro i h1 h2
    simp only [List.length_replicate] at h2
    simp only [List.getElem_take, List.getElem_drop, List.getElem_replicate]
    have := h (n + i) (by omega) (by omega)
    rw [List.getD_eq_getElem?_getD, List.getElem?_eq_getElem (by omega)] at this
    exact this
theorem pCut_odd {n j : Nat} {xs : List UInt8} (hl : n + padN n ≤ xs.length) (h1 : n ≤ j) (h2 : j < n + padN n) (h : xs.getD j 0 ≠ 0) : pCut n xs = .error 5 := by
  rw [pCut, if_neg (by omega), if_neg]
  intro e
  apply h
  have e2 : ((xs.drop n).take (padN n))[j - n]? = (List.replicate (padN n) (0 : UInt8))[j - n]? := by rw [e]
  rw [List.getElem?_take, if_pos (by omega), List.getElem?_drop, show n + (j - n) = j by omega, List.getElem?_replicate, if_pos (by omega)] at e2
  rw [List.getD_eq_getElem?_getD, e2]; rfl
theorem zero_one {n : Nat} {xs : List UInt8} (h : xs.getD n 0 = 0) : ∀ j, n ≤ j → j < n + 1 → xs.getD j 0 = 0 := fun j h1 h2 => by
  obtain rfl : j = n := by omega
  exact h
theorem zero_more {n k : Nat} {xs : List UInt8} (hzs : ∀ j, n ≤ j → j < k → xs.getD j 0 = 0) (h : xs.getD k 0 = 0) : ∀ j, n ≤ j → j < k + 1 → xs.getD j 0 = 0 := fun j h1 h2 => by
  by_cases hj : j = k
  · subst hj; exact h
  · exact hzs j h1 (by omega)
set_option maxRecDepth 100000 in
set_option maxHeartbeats 4000000 in
theorem cut_any {n : Nat} {xs : List UInt8} {v : Value} {w : World} (h : Rd w v xs) (hn : n ≤ 1000000000) (hx : xs.length ≤ 1000000000) :
    Calls Tryz.prog 92 #[v, .int .i64 n] w (CutPost n xs w) := by
  have HP := Lib.hid (fun w => Pad_any n (by omega) w)
  have hpad : padN n ≤ 3 := by unfold padN; omega
  have hsum : wrap64 ((n : Int) + (padN n : Nat)) = ((n + padN n : Nat) : Int) := by unfold wrap64; omega
  obtain ⟨q, hq⟩ : ∃ q, q = padN n := ⟨_, rfl⟩
  by_cases hs : xs.length < n + padN n
  · have hc : pCut n xs = .error 4 := by rw [pCut, if_pos hs]
    have hlt : (xs.length : Int) < ((n + padN n : Nat) : Int) := by omega
    obtain ⟨A, c, rfl, h1, h2, h3, h4⟩ := h.bs
    have HC := Lib.hid hc
    rw [← hq] at HP hsum hlt
    clear hc h h3 hs hpad hq
    go_enter Tryz.func92, Tryz.ntmps92
    go_wp2_with fail
    refine wp_scope_jumps 0 (fun _ _ => False) (fun _ _ => 0) rfl ?_ (fun _ _ h => h.elim)
    go_wp2_with (go_at_call 52; (refine Calls.mono (HP.out _) ?_); rintro e w1 ⟨rfl, rfl⟩)
    simp only [Exit.jump]
    refine bodyPost_ret (v := .tuple #[_, _]) (by simp [results, Tryz.results92, go_sem]; try rfl) rfl ⟨rfl, .inr ⟨4, HC.out, by decide, rfl⟩⟩
  · have hs' : n + padN n ≤ xs.length := by omega
    rcases h with ⟨rfl, rfl⟩ | ⟨b, off, c, rfl, hc1, hc2, hb, hcell⟩
    · obtain rfl : n = 0 := by simp at hs'; omega
      have HC := Lib.hid (show pCut 0 ([] : List UInt8) = .ok ([], 0) from rfl)
      have HP0 : Hid (∀ w : World, Calls Tryz.prog 52 #[.int .i64 0] w fun e w' => e = .returned (.int .i64 0) ∧ w = w') := fun w => Pad_any 0 (by omega) w
      clear hs hs' hsum hpad hx HP hq hn
      go_enter Tryz.func92, Tryz.ntmps92
      go_wp2_with fail
      refine wp_scope_jumps 0 (fun _ _ => False) (fun _ _ => 0) rfl ?_ (fun _ _ h => h.elim)
      go_wp2_with (go_at_call 52; (refine Calls.mono (HP0.out _) ?_); rintro e w1 ⟨rfl, rfl⟩)
      go_step3
      go_wp2
      simp only [Exit.jump]
      refine bodyPost_ret (v := .tuple #[_, _]) (by simp [results, Tryz.results92, go_sem]; try rfl) rfl ⟨rfl, .inl ⟨[], 0, _, HC.out, rfl, rfl, rfl, .inl ⟨rfl, rfl⟩⟩⟩
    · rw [← hq] at HP hsum hpad hs'
      have hnq : ∀ m : Nat, padN n = m → True := fun _ _ => trivial
      have HQ := Lib.hid hq
      have hs'' := hs'
      rw [hq] at hs''
      clear hs hnq
      have hs' : n + padN n ≤ xs.length := hs''
      have hqq : padN n = q := hq.symm
      clear hs'' hq
      have HCE := Lib.hid hcell
      clear hcell hc2
      go_enter Tryz.func92, Tryz.ntmps92
      go_wp2_with fail
      refine wp_scope_jumps 0 (fun a' w' => w' = w ∧ ∃ k : Nat, n ≤ k ∧ k ≤ n + q ∧ (∀ j, n ≤ j → j < k → xs.getD j 0 = 0) ∧ ∃ u8 u9 u10 u11 u12 u13 u14 u15 u16 u17 u18 u19 u20 u21 u22 u23 u24 u25 u26 u27 u28 u29 u30 : Value, a' = { tmps := #[.slice (some ⟨b, off, none⟩) xs.length c, .int .i64 n, undef, undef, .slice none 0 0, .int .i64 0, .int .i64 ((n : Int) + (q : Int)), .int .i64 ((k : Nat) : Int), u8, u9, u10, u11, u12, u13, u14, u15, u16, u17, u18, u19, u20, u21, u22, u23, u24, u25, u26, u27, u28, u29, u30], defers := [] }) (fun a' _ => n + q - (intOf (a'.tmps.getD 7 undef)).toNat) rfl ?_ ?_
      · have hnl : ¬ ((xs.length : Int) < ((n + q : Nat) : Int)) := by omega
        by_cases hk : n < n + q
        · have hkI : ((n : Nat) : Int) < ((n + q : Nat) : Int) := by omega
          have hkl : n < xs.length := by omega
          have hc := HCE.out n hkl
          obtain ⟨t, ht⟩ : ∃ t, t = (xs.getD n 0).toNat := ⟨_, rfl⟩
          rw [← ht] at hc
          have hw : wrap64 (((n : Nat) : Int) + 1) = ((n + 1 : Nat) : Int) := by unfold wrap64; omega
          by_cases htz : t = 0
          · have hz : xs.getD n 0 = 0 := UInt8.toNat_inj.1 (by rw [← ht, htz]; rfl)
            rw [htz] at hc
            have HZ := Lib.hid hz
            clear hz ht htz
            (go_wp2_with (go_at_call 52; (refine Calls.mono (HP.out _) ?_); rintro e w1 ⟨rfl, rfl⟩)); go_step3; go_wp2
            go_step3
            exact ⟨rfl, rfl, n + 1, by omega, by omega, zero_one HZ.out, _, _, _, _, _, _, _, _, _, _, _, _, _, _, _, _, _, _, _, _, _, _, _, rfl⟩
          · have hz : xs.getD n 0 ≠ 0 := fun e => htz (by rw [ht, e]; rfl)
            have HO := Lib.hid (pCut_odd hs' (Nat.le_refl _) (by rw [hqq]; exact hk) hz)
            have hne : ¬ ((t : Int) = 0) := by simpa using htz
            clear hz ht
            (go_wp2_with (go_at_call 52; (refine Calls.mono (HP.out _) ?_); rintro e w1 ⟨rfl, rfl⟩)); go_step3; go_wp2
            simp only [Exit.jump]
            refine bodyPost_ret (v := .tuple #[_, _]) (by simp [results, Tryz.results92, go_sem]; try rfl) rfl ⟨rfl, .inr ⟨5, HO.out, by decide, rfl⟩⟩
        · have hkI : ¬ (((n : Nat) : Int) < ((n + q : Nat) : Int)) := by omega
          have HO := Lib.hid (pCut_zeros hs' (fun j h1 h2 => by omega))
          (go_wp2_with (go_at_call 52; (refine Calls.mono (HP.out _) ?_); rintro e w1 ⟨rfl, rfl⟩)); go_step3; go_wp2
          simp only [Exit.jump]
          refine bodyPost_ret (v := .tuple #[_, _]) (by simp [results, Tryz.results92, go_sem]; try rfl) rfl ⟨rfl, .inl ⟨xs.take n, n + padN n, _, HO.out, rfl, by rw [List.length_take]; omega, rfl, .inr ⟨b, off, n, by rw [List.length_take, Nat.min_eq_left (by omega)], by rw [List.length_take]; omega, by omega, hb, fun j hj => by rw [List.length_take] at hj; rw [HCE.out j (by omega), List.getD_eq_getElem?_getD, List.getD_eq_getElem?_getD, List.getElem?_take, if_pos (by omega)]⟩⟩⟩
      · rintro a' w' ⟨rfl, k, h1, h2, hzs, u8, u9, u10, u11, u12, u13, u14, u15, u16, u17, u18, u19, u20, u21, u22, u23, u24, u25, u26, u27, u28, u29, u30, rfl⟩
        by_cases hk : k < n + q
        · have hkI : ((k : Nat) : Int) < ((n + q : Nat) : Int) := by omega
          have hkl : k < xs.length := by omega
          have hc := HCE.out k hkl
          obtain ⟨t, ht⟩ : ∃ t, t = (xs.getD k 0).toNat := ⟨_, rfl⟩
          rw [← ht] at hc
          have hw : wrap64 (((k : Nat) : Int) + 1) = ((k + 1 : Nat) : Int) := by unfold wrap64; omega
          by_cases htz : t = 0
          · have hz : xs.getD k 0 = 0 := UInt8.toNat_inj.1 (by rw [← ht, htz]; rfl)
            rw [htz] at hc
            have HZ := Lib.hid hz
            clear hz ht htz
            go_wp2
            go_step3
            exact ⟨rfl, ⟨rfl, k + 1, by omega, by omega, zero_more hzs HZ.out, _, _, _, _, _, _, _, _, _, _, _, _, _, _, _, _, _, _, _, _, _, _, _, rfl⟩, by simp [intOf]; omega⟩
          · have hz : xs.getD k 0 ≠ 0 := fun e => htz (by rw [ht, e]; rfl)
            have HO := Lib.hid (pCut_odd hs' h1 (by rw [hqq]; exact hk) hz)
            have hne : ¬ ((t : Int) = 0) := by simpa using htz
            clear hz ht
            go_wp2
            simp only [Exit.jump]
            refine bodyPost_ret (v := .tuple #[_, _]) (by simp [results, Tryz.results92, go_sem]; try rfl) rfl ⟨rfl, .inr ⟨5, HO.out, by decide, rfl⟩⟩
        · have hkI : ¬ (((k : Nat) : Int) < ((n + q : Nat) : Int)) := by omega
          have HO := Lib.hid (pCut_zeros hs' (fun j h1' h2' => hzs j h1' (Nat.lt_of_lt_of_le h2' (by rw [hqq]; exact Nat.le_of_not_lt hk))))
          go_wp2
          simp only [Exit.jump]
          refine bodyPost_ret (v := .tuple #[_, _]) (by simp [results, Tryz.results92, go_sem]; try rfl) rfl ⟨rfl, .inl ⟨xs.take n, n + padN n, _, HO.out, rfl, by rw [List.length_take]; omega, rfl, .inr ⟨b, off, n, by rw [List.length_take, Nat.min_eq_left (by omega)], by rw [List.length_take]; omega, by omega, hb, fun j hj => by rw [List.length_take] at hj; rw [HCE.out j (by omega), List.getD_eq_getElem?_getD, List.getD_eq_getElem?_getD, List.getElem?_take, if_pos (by omega)]⟩⟩⟩
end Go.Proofs.YtgmhapjidbdhnaaGreat
namespace Go.Proofs.YtgmhapjidbdhnaaGreat
open Go.RowKit
/-- What a getter of bytes comes to: bytes of its own and how many were read, or an error. -/
def BytesPost (p : Ps (List UInt8)) (xs : List UInt8) (w : World) (e : Ending) (w' : World) : Prop :=
  Below w.heap.size w w' ∧ ((∃ ys j v', p xs = .ok (ys, j) ∧ e = .returned (.tuple #[v', .int .i64 j, .int .i64 0]) ∧ OwnB w' w.heap.size v' ys) ∨ ∃ er, p xs = .error er ∧ er ≠ 0 ∧ e = .returned (.tuple #[.slice none 0 0, .int .i64 0, .int .i64 er]))
theorem pCut_len {n : Nat} {xs ys : List UInt8} {j : Nat} (h : pCut n xs = .ok (ys, j)) : j = n + padN n ∧ ys.length = n ∧ n + padN n ≤ xs.length := by
  have := (lawful_cut n).again _ _ _ h
  unfold pCut at h
  split at h
  · cases h
  · split at h
    · injection h with h; injection h with h1 h2
      exact ⟨h2.symm, this.2.1, by omega⟩
    · cases h
set_option maxRecDepth 100000 in
set_option maxHeartbeats 4000000 in
theorem GetFixed_any {n : Nat} {xs : List UInt8} {v : Value} {w : World} (h : Rd w v xs) (hn : n ≤ 65536) (hx : xs.length ≤ 1000000000) :
    Calls Tryz.prog 76 #[v, .int .i64 n] w (BytesPost (pCut n) xs w) := by
  have HC := Lib.hid (cut_any h (n := n) (by omega) hx)
  have HP := Lib.hid (fun w => Pad_any n (by omega) w)
  have h0 : ¬ ((n : Int) < 0) := by omega
  have h1 : ¬ (65536 < (n : Int)) := by omega
  have hpad : padN n ≤ 3 := by unfold padN; omega
  have hw : wrap64 ((n : Int) + (padN n : Nat)) = ((n + padN n : Nat) : Int) := by unfold wrap64; omega
  have HL := Lib.hid hn
  clear h hx hn hpad
  have HW := Lib.hid hw
  clear hw
  go_enter Tryz.func76, Tryz.ntmps76
  go_wp2_with (first
    | (go_at_call 92; (refine Calls.mono HC.out ?_); rintro e w1 ⟨rfl, ⟨ys, j, v', hp, hj, hl, rfl, hr⟩ | ⟨er, hp, hne, rfl⟩⟩; (have HPP := Lib.hid hp); (try (have HRR := Lib.hid hr)); (try (have HLL := Lib.hid hl)); (try (have HJJ := Lib.hid hj)); (try clear hr hl hj); (clear hp))
    | (go_at_call 78; (refine Calls.mono (Clone_any HRR.out (by rw [HLL.out]; exact Nat.le_trans HL.out (by decide))) ?_); rintro e w2 ⟨v2, rfl, o2, b2⟩)
    | (go_at_call 52; (refine Calls.mono (HP.out _) ?_); rintro e w3 ⟨rfl, rfl⟩))
  · refine bodyPost_ret (v := .tuple #[v2, .int .i64 (wrap64 ((n : Int) + (padN n : Nat))), .int .i64 0]) (by simp [results, Tryz.results76, go_sem]) rfl ⟨b2, .inl ⟨ys, n + padN n, _, by rw [HPP.out, HJJ.out], by rw [HW.out], o2⟩⟩
  · refine bodyPost_ret (v := .tuple #[.slice none 0 0, .int .i64 0, .int .i64 er]) (by simp [results, Tryz.results76, go_sem]) rfl ⟨Below.refl _ _, .inr ⟨er, hp, hne, rfl⟩⟩
theorem pOpq_short {most : Nat} {xs : List UInt8} (h : xs.length < 4) : pOpq most xs = .error 4 := by
  rw [pOpq, Ps.bind_error (e := 4)]; rw [pNum, if_pos h]
theorem pOpq_limit {most : Nat} {xs : List UInt8} (h : 4 ≤ xs.length) (hm : most < beN (xs.take 4)) : pOpq most xs = .error 3 := by
  rw [pOpq, Ps.bind_ok (a := beN (xs.take 4)) (k := 4) (by rw [pNum, if_neg (by omega)]), Ps.bind_error (e := 3)]
  rw [Ps.need, if_neg (by simp; omega)]
theorem pOpq_cut {most : Nat} {xs : List UInt8} (h : 4 ≤ xs.length) (hm : beN (xs.take 4) ≤ most) : pOpq most xs = match pCut (beN (xs.take 4)) (xs.drop 4) with | .error e => .error e | .ok (x, m) => .ok (x, 4 + m) := by
  rw [pOpq, Ps.bind_ok (a := beN (xs.take 4)) (k := 4) (by rw [pNum, if_neg (by omega)])]
  have e : Ps.bind (Ps.need (decide (beN (xs.take 4) ≤ most)) 3) (fun _ => pCut (beN (xs.take 4))) (xs.drop 4) = pCut (beN (xs.take 4)) (xs.drop 4) := by
    rw [Ps.bind_ok (a := ()) (k := 0) (by rw [Ps.need, if_pos (by simpa using hm)]), List.drop_zero]
    rcases pCut (beN (xs.take 4)) (xs.drop 4) with e | ⟨x, m⟩
    · rfl
    · simp
  rw [e]
  rcases pCut (beN (xs.take 4)) (xs.drop 4) with e | ⟨x, m⟩ <;> rfl
theorem Rd.from {w : World} {b off c k : Nat} {xs : List UInt8} (h : Rd w (.slice (some ⟨b, off, none⟩) xs.length c) xs) (hk : k ≤ xs.length) : k ≤ c ∧ (k < c → Rd w (.slice (some ⟨b, off + k, none⟩) (xs.length - k) (c - k)) (xs.drop k)) ∧ (k = c → Rd w (.slice (some ⟨b, off, none⟩) (xs.length - k) (c - k)) (xs.drop k)) := by
  rcases h with ⟨h, _⟩ | ⟨b', off', c', h, h1, h2, h3, h4⟩
  · cases h
  · injection h with e1 e2 e3
    injection e1 with e1
    injection e1 with e4 e5
    subst e4; subst e5; subst e3
    refine ⟨by omega, fun hc => .inr ⟨b, off + k, c - k, by rw [List.length_drop], by rw [List.length_drop]; omega, by omega, h3, fun j hj => ?_⟩, fun hc => .inr ⟨b, off, c - k, by rw [List.length_drop], by rw [List.length_drop]; omega, by omega, h3, fun j hj => ?_⟩⟩
    · rw [List.length_drop] at hj
      rw [show off + k + j = off + (k + j) by omega, h4 (k + j) (by omega), List.getD_eq_getElem?_getD, List.getD_eq_getElem?_getD, List.getElem?_drop]
    · rw [List.length_drop] at hj; omega
set_option maxRecDepth 100000 in
set_option maxHeartbeats 4000000 in
theorem OGet_any {most : Nat} {xs : List UInt8} {v : Value} {w : World} (h : Rd w v xs) (hm : most ≤ 100000) (hx : xs.length ≤ 1000000000) :
    Calls Tryz.prog 62 #[v, .int .i64 most] w (BytesPost (pOpq most) xs w) := by
  obtain ⟨A, c, rfl, hc1, hc2, hB, hnone⟩ := h.bs
  clear hc2
  by_cases hs : xs.length < 4
  · have HE := Lib.hid (pOpq_short (most := most) hs)
    have HG := Lib.hid (Get_short A xs.length c xs w hB hs)
    clear h hB hc1 hnone hx hs
    go_enter Tryz.func62, Tryz.ntmps62
    go_wp2_with (go_at_call 73; (refine Calls.mono HG.out ?_); rintro e w1 ⟨rfl, rfl⟩)
    refine bodyPost_ret (v := .tuple #[.slice none 0 0, .int .i64 0, .int .i64 4]) (by simp [results, Tryz.results62, go_sem]) rfl ⟨Below.refl _ _, .inr ⟨4, HE.out, by decide, rfl⟩⟩
  · have hs4 : 4 ≤ xs.length := by omega
    have HG := Lib.hid (Get_full A xs.length c xs w hB hc1 hs4)
    have hlt := beN_lt (xs.take 4)
    rw [List.length_take, Nat.min_eq_left hs4, show (256 : Nat) ^ 4 = 4294967296 by decide] at hlt
    by_cases hml : most < beN (xs.take 4)
    · have HE := Lib.hid (pOpq_limit hs4 hml)
      have hI : (most : Int) < (beN (xs.take 4) : Int) := by omega
      clear h hB hc1 hnone hx hs hml hs4
      generalize beN (xs.take 4) = n at *
      go_enter Tryz.func62, Tryz.ntmps62
      go_wp2_with (go_at_call 73; (refine Calls.mono HG.out ?_); rintro e w1 ⟨rfl, rfl⟩)
      refine bodyPost_ret (v := .tuple #[.slice none 0 0, .int .i64 0, .int .i64 3]) (by simp [results, Tryz.results62, go_sem]) rfl ⟨Below.refl _ _, .inr ⟨3, HE.out, by decide, rfl⟩⟩
    · have HE := Lib.hid (pOpq_cut hs4 (by omega : beN (xs.take 4) ≤ most))
      have hnI : ¬ ((most : Int) < (beN (xs.take 4) : Int)) := by omega
      obtain ⟨b, off, rfl⟩ : ∃ b off, A = some ⟨b, off, none⟩ := by
        obtain ⟨b, off, e, _⟩ := hB.2.2 (by omega)
        exact ⟨b, off, e⟩
      obtain ⟨k1, k2, k3⟩ := h.from hs4
      have hn : beN (xs.take 4) ≤ 100000 := by omega
      obtain ⟨L, hL⟩ : ∃ L, L = xs.length := ⟨_, rfl⟩
      have hLx : (xs.drop 4).length ≤ 1000000000 := by rw [List.length_drop]; omega
      generalize beN (xs.take 4) = n at *
      have HP := Lib.hid (fun w => Pad_any n (by omega) w)
      have hpad : padN n ≤ 3 := by unfold padN; omega
      have hw1 : wrap64 (4 + (n : Int)) = ((4 + n : Nat) : Int) := by unfold wrap64; omega
      have hw2 : wrap64 (((4 + n : Nat) : Int) + (padN n : Nat)) = ((4 + (n + padN n) : Nat) : Int) := by unfold wrap64; omega
      have HW := Lib.hid hw2
      have HHn := Lib.hid hn
      have hcI : (4 : Int) ≤ (c : Int) := by omega
      have hLI : (4 : Int) ≤ (xs.length : Int) := by omega
      have K2 := Lib.hid k2
      have K3 := Lib.hid k3
      rcases Nat.lt_or_ge 4 c with hc4 | hc4
      · have hr4 := Lib.hid (K2.out hc4)
        have hcN : ¬ ((c : Int) = 4) := by omega
        have hcM : ¬ (c = 4) := by omega
        have HC := Lib.hid (cut_any (n := n) ((hr4).out) (by omega) hLx)
        clear h hB hc1 hnone hx hs hs4 hml hLx hlt k1 k2 k3 hpad hw2 hL hm
        go_enter Tryz.func62, Tryz.ntmps62
        go_wp2_with (first
        | (go_at_call 73; (refine Calls.mono HG.out ?_); rintro e w1 ⟨rfl, rfl⟩)
        | (go_at_call 92; (refine Calls.mono HC.out ?_); rintro e w1 ⟨rfl, ⟨ys, j, v', hp, hj, hl, rfl, hr⟩ | ⟨er, hp, hne, rfl⟩⟩; (have HPP := Lib.hid hp); (try (have HRR := Lib.hid hr)); (try (have HLL := Lib.hid hl)); (try (have HJJ := Lib.hid hj)); (try clear hr hl hj); (clear hp))
        | (go_at_call 78; (refine Calls.mono (Clone_any HRR.out (by rw [HLL.out]; exact Nat.le_trans HHn.out (by decide))) ?_); rintro e w2 ⟨v2, rfl, o2, b2⟩)
        | (go_at_call 52; (refine Calls.mono (HP.out _) ?_); rintro e w3 ⟨rfl, rfl⟩))
        · refine bodyPost_ret (v := .tuple #[v2, .int .i64 (wrap64 (((4 + n : Nat) : Int) + (padN n : Nat))), .int .i64 0]) (by simp [results, Tryz.results62, go_sem]) rfl ⟨b2, .inl ⟨ys, 4 + (n + padN n), _, by rw [HE.out, HPP.out, HJJ.out], by rw [HW.out], o2⟩⟩
        · refine bodyPost_ret (v := .tuple #[.slice none 0 0, .int .i64 0, .int .i64 er]) (by simp [results, Tryz.results62, go_sem]) rfl ⟨Below.refl _ _, .inr ⟨er, by rw [HE.out, hp], hne, rfl⟩⟩
      · have hc4' : 4 = c := by omega
        have hr4 := Lib.hid (K3.out hc4')
        subst hc4'
        have HC := Lib.hid (cut_any (n := n) ((hr4).out) (by omega) hLx)
        clear h hB hc1 hnone hx hs hs4 hml hLx hlt k1 k2 k3 hpad hw2 hL hm
        go_enter Tryz.func62, Tryz.ntmps62
        go_wp2_with (first
        | (go_at_call 73; (refine Calls.mono HG.out ?_); rintro e w1 ⟨rfl, rfl⟩)
        | (go_at_call 92; (refine Calls.mono HC.out ?_); rintro e w1 ⟨rfl, ⟨ys, j, v', hp, hj, hl, rfl, hr⟩ | ⟨er, hp, hne, rfl⟩⟩; (have HPP := Lib.hid hp); (try (have HRR := Lib.hid hr)); (try (have HLL := Lib.hid hl)); (try (have HJJ := Lib.hid hj)); (try clear hr hl hj); (clear hp))
        | (go_at_call 78; (refine Calls.mono (Clone_any HRR.out (by rw [HLL.out]; exact Nat.le_trans HHn.out (by decide))) ?_); rintro e w2 ⟨v2, rfl, o2, b2⟩)
        | (go_at_call 52; (refine Calls.mono (HP.out _) ?_); rintro e w3 ⟨rfl, rfl⟩))
        · refine bodyPost_ret (v := .tuple #[v2, .int .i64 (wrap64 (((4 + n : Nat) : Int) + (padN n : Nat))), .int .i64 0]) (by simp [results, Tryz.results62, go_sem]) rfl ⟨b2, .inl ⟨ys, 4 + (n + padN n), _, by rw [HE.out, HPP.out, HJJ.out], by rw [HW.out], o2⟩⟩
        · refine bodyPost_ret (v := .tuple #[.slice none 0 0, .int .i64 0, .int .i64 er]) (by simp [results, Tryz.results62, go_sem]) rfl ⟨Below.refl _ _, .inr ⟨er, by rw [HE.out, hp], hne, rfl⟩⟩
end Go.Proofs.YtgmhapjidbdhnaaGreat
namespace Go.Proofs.YtgmhapjidbdhnaaGreat
open Go.RowKit
/-- A text of these bytes. -/
def strV (ys : List UInt8) : Value := .string ⟨ys.toArray⟩
theorem convert_rd {w : World} {v : Value} {ys : List UInt8} (h : Rd w v ys) : (convert 24 9 v).run Tryz.prog w = .ok (strV ys) w := by
  rcases h with ⟨rfl, rfl⟩ | ⟨b, off, c, rfl, h1, h2, h3, h4⟩
  · exact run_convert_bytes_nil w 24 5 Tryz.underlying24 Tryz.underlying5 0 0 9 Tryz.underlying9
  · have := run_convert_bytes_arg (P := Tryz.prog) w 24 5 Tryz.underlying24 Tryz.underlying5 b off ys.length c (ys.map fun y => (y.toNat : Int)) (by simp) (fun i hi => by
      rw [h4 i hi, List.getD_eq_getElem?_getD, List.getD_eq_getElem?_getD, List.getElem?_map, List.getElem?_eq_getElem hi]; rfl) 9 Tryz.underlying9
    rw [this]
    have e : strOfNums (ys.map fun y => (y.toNat : Int)) = ⟨ys.toArray⟩ := by
      have e2 : (strOfNums (ys.map fun y => (y.toNat : Int))).data = ys.toArray := by
        apply Array.toList_inj.1
        rw [strOfNums_data, List.map_map]
        have : ((fun n : Int => UInt8.ofNat n.toNat) ∘ fun y : UInt8 => (y.toNat : Int)) = id := by
          funext y; simp
        rw [this, List.map_id]
      exact congrArg ByteArray.mk e2
    rw [e]; rfl
/-- What a getter of a text comes to. -/
def TextPost (p : Ps (List UInt8)) (xs : List UInt8) (w : World) (e : Ending) (w' : World) : Prop :=
  Below w.heap.size w w' ∧ ((∃ ys j, p xs = .ok (ys, j) ∧ e = .returned (.tuple #[strV ys, .int .i64 j, .int .i64 0])) ∨ ∃ er, p xs = .error er ∧ er ≠ 0 ∧ e = .returned (.tuple #[strV [], .int .i64 0, .int .i64 er]))
set_option maxRecDepth 100000 in
set_option maxHeartbeats 4000000 in
theorem SGet_any {most : Nat} {xs : List UInt8} {v : Value} {w : World} (h : Rd w v xs) (hm : most ≤ 100000) (hx : xs.length ≤ 1000000000) :
    Calls Tryz.prog 66 #[v, .int .i64 most] w (TextPost (pOpq most) xs w) := by
  have HG := Lib.hid (OGet_any h hm hx)
  have hn := fun wx => convert_rd (w := wx) (v := .slice none 0 0) (ys := []) (.inl ⟨rfl, rfl⟩)
  clear h hm hx
  unfold strV at hn
  go_enter Tryz.func66, Tryz.ntmps66
  go_wp2_with (go_at_call 62; (refine Calls.mono HG.out ?_); rintro e w1 ⟨b1, ⟨ys, j, v', hp, rfl, ho⟩ | ⟨er, hp, hne, rfl⟩⟩; (try (have hcv := convert_rd ho.rd)); (try unfold strV at hcv))
  · refine bodyPost_ret (v := .tuple #[strV ys, .int .i64 j, .int .i64 0]) (by simp [results, Tryz.results66, go_sem, strV]) rfl ⟨b1, .inl ⟨ys, j, hp, rfl⟩⟩
  · refine bodyPost_ret (v := .tuple #[strV [], .int .i64 0, .int .i64 er]) (by simp [results, Tryz.results66, go_sem, strV]) rfl ⟨b1, .inr ⟨er, hp, hne, rfl⟩⟩
end Go.Proofs.YtgmhapjidbdhnaaGreat
namespace Go.Proofs.YtgmhapjidbdhnaaGreat
open Go.RowKit
theorem make_bytes (q : Nat) (hq : q ≤ 4200000) (w : World) : ∃ o, (Instr.makeSlice 24 (.int .i64 (q : Int)) (.int .i64 (q : Int))).run Tryz.prog w = .ok (.slice (some ⟨w.heap.size, 0, none⟩) q q) (w.alloc o) ∧ OwnB (w.alloc o) w.heap.size (.slice (some ⟨w.heap.size, 0, none⟩) q q) (List.replicate q 0) := by
  have hi := info_u8
  obtain ⟨i0, hi, hz⟩ : ∃ i0, Tryz.prog.info? 5 = some i0 ∧ (i0.zero, i0.size, i0.bytes) = (some (.int .u8 0), 1, 1) := by
    cases he : Tryz.prog.info? 5 with
    | none => rw [he] at hi; cases hi
    | some i0 => rw [he] at hi; exact ⟨i0, rfl, by simpa using hi⟩
  simp only [Prod.mk.injEq] at hz
  have hr := run_make w 24 5 i0 (.int .u8 0) Tryz.underlying24 hi hz.1 .i64 .i64 (q : Int) (q : Int) (by omega) (Int.le_refl _) (by rw [hz.2.2]; omega) (by omega)
  rw [hz.2.1, Int.toNat_natCast, Nat.mul_one] at hr
  refine ⟨_, hr, ?_⟩
  have hcells : madeCells (Value.int .u8 0).cells q = (u8s (List.replicate q 0)).toArray := by
    apply Array.ext
    · simp [size_madeCells, u8s]
    · intro i h1 h2
      have e : (Value.int .u8 0).cells = #[.int .u8 0] := rfl
      simp [madeCells, e, Nat.mod_one, u8s]
  rw [hcells]
  exact ⟨by simp [u8s], .inr ⟨w.heap.size, q, _, by rw [List.length_replicate], Nat.le_refl _, heap_alloc_new _ _, by simp, by unfold maxLen; omega, by simp [u8s], by simp [u8s]⟩⟩
set_option maxRecDepth 100000 in
set_option maxHeartbeats 4000000 in
theorem PutFixed_any {v : Value} {xs : List UInt8} {w : World} (h : Rd w v xs) (hx : xs.length ≤ 1900000) :
    Calls Tryz.prog 28 #[v] w fun e w' => ∃ v', e = .returned v' ∧ OwnB w' w.heap.size v' (qCut xs) ∧ Below w.heap.size w w' := by
  obtain ⟨A, c, rfl, -, -, -, -⟩ := h.bs
  have H := Lib.hid h
  have HX := Lib.hid hx
  have HP := Lib.hid (fun w => Pad_any xs.length (by omega) w)
  have hpad : padN xs.length ≤ 3 := by unfold padN; omega
  unfold qCut
  clear h hx
  obtain ⟨q, hq⟩ : ∃ q, padN xs.length = q := ⟨_, rfl⟩
  rw [hq] at HP hpad ⊢
  have HQ := Lib.hid hpad
  obtain ⟨o, hm, hO⟩ := make_bytes q (by omega) w
  have HO := Lib.hid hO
  clear hpad hq hO
  go_enter Tryz.func28, Tryz.ntmps28
  go_wp2_with (first
    | (go_at_call 52; (refine Calls.mono (HP.out _) ?_); rintro e w1 ⟨rfl, rfl⟩)
    | (go_at_call 27; (refine Calls.mono (Concat_rd (by simp) (by simp [go_sem]) (by simp [go_sem]) (H.out.below (by (with_reducible (repeat' (first | exact Below.refl _ _ | assumption | apply bl_alloc | apply bl_drewN | apply bl_drew | refine bl_set ?_ ?_ _))) <;> (first | done | (simp; done) | (simp; omega) | omega))) ((HO.out.below (bl_alloc (Below.refl _ _) _)).rd) (by have := HX.out; omega) (by have := HQ.out; rw [List.length_replicate]; omega)) ?_); rintro e w2 ⟨v2, rfl, o2, b2⟩))
  go_ret
  exact ⟨_, rfl, o2.mono (by simp; omega), bl_then (bl_alloc (bl_alloc (Below.refl _ _) _) _) b2⟩
set_option maxRecDepth 100000 in
set_option maxHeartbeats 4000000 in
theorem OPut_any {v : Value} {xs : List UInt8} {w : World} (h : Rd w v xs) (hx : xs.length ≤ 1900000) :
    Calls Tryz.prog 17 #[v] w fun e w' => ∃ v', e = .returned v' ∧ OwnB w' w.heap.size v' (put4 xs.length ++ qCut xs) ∧ Below w.heap.size w w' := by
  obtain ⟨A, c, rfl, -, -, -, -⟩ := h.bs
  have H := Lib.hid h
  have HX := Lib.hid hx
  have HW := Lib.hid (fun w => Put_any xs.length (by omega) w)
  have hlq : (qCut xs).length ≤ 1900003 := by rw [qCut_length]; have : padN xs.length ≤ 3 := (by unfold padN; omega); omega
  have HLQ := Lib.hid hlq
  have hl4 := put4_length xs.length
  have HL4 := Lib.hid hl4
  have hcv : IntKind.u32.wrap (xs.length : Int) = (xs.length : Int) := wraps_u32' _ (by omega) (by omega)
  clear h hx hlq hl4
  go_enter Tryz.func17, Tryz.ntmps17
  go_wp2_with (first
    | (go_at_call 20; (refine Calls.mono (HW.out _) ?_); rintro e w1 ⟨v1, rfl, o1, b1⟩; obtain ⟨A1, c1, rfl, -, -, -, -⟩ := o1.rd.bs)
    | (go_at_call 28; (refine Calls.mono (PutFixed_any (H.out.below b1) HX.out) ?_); rintro e w2 ⟨v2, rfl, o2, b2⟩; obtain ⟨A2, c2, rfl, -, -, -, -⟩ := o2.rd.bs; (have o1' := o1.below b2))
    | (go_at_call 27; (refine Calls.mono (Concat_rd (by simp) (by simp [go_sem]) (by simp [go_sem]) ((o1'.below (bl_alloc (Below.refl _ _) _)).rd) ((o2.below (bl_alloc (Below.refl _ _) _)).rd) (by rw [HL4.out]; omega) (Nat.le_trans HLQ.out (by decide))) ?_); rintro e w3 ⟨v3, rfl, o3, b3⟩))
  go_ret
  have hb : Below w.heap.size w w2 := bl_then b1 b2
  exact ⟨_, rfl, o3.mono (by have := hb.size; simp; omega), bl_then (bl_alloc hb _) b3⟩
end Go.Proofs.YtgmhapjidbdhnaaGreat
namespace Go.Proofs.YtgmhapjidbdhnaaGreat
open Go.RowKit
theorem convert_str (ys : List UInt8) (hy : ys.length ≤ 4000000) (w : World) : ∃ v w', (convert 9 24 (strV ys)).run Tryz.prog w = .ok v w' ∧ Rd w' v ys ∧ Below w.heap.size w w' := by
  have hr := run_bytes_of_string (P := Tryz.prog) w 9 24 5 ⟨ys.toArray⟩ Tryz.underlying9 Tryz.underlying24 Tryz.underlying5
  have hs : (⟨ys.toArray⟩ : ByteArray).size = ys.length := rfl
  rw [hs] at hr
  have hge := grownCap_ge w ys.length 0 5
  have hle := grownCap_le_maxLen w ys.length 0 5 (by unfold maxLen; omega)
  simp only [maxLen] at hle
  refine ⟨_, _, hr, .inr ⟨w.heap.size, 0, _, rfl, hge, by omega, by simp, fun j hj => ?_⟩, ?_⟩
  · rw [Nat.zero_add, List.getD_eq_getElem?_getD, List.getElem?_eq_getElem hj]
    have e : (bytesRow ⟨ys.toArray⟩ (grownCap w ys.length 0 5))[j]? = some (.int .u8 (ys[j]).toNat) := by
      unfold bytesRow
      rw [Array.getElem?_append_left (by simp; omega)]
      simp [hj]
    generalize bytesRow ⟨ys.toArray⟩ (grownCap w ys.length 0 5) = R at e ⊢
    have hsz : (w.drew).heap.size = w.heap.size := rfl
    rw [← hsz]
    have hh : (w.drew.alloc (.cells R 5 (R.size, R.size + 1))).heap[w.drew.heap.size]? = some (.cells R 5 (R.size, R.size + 1)) := heap_alloc_new _ _
    unfold World.cell?
    rw [hh]
    exact e
  · exact bl_alloc (bl_drew (Below.refl _ _)) _
set_option maxRecDepth 100000 in
set_option maxHeartbeats 4000000 in
theorem SPut_any {xs : List UInt8} {w : World} (hx : xs.length ≤ 1900000) :
    Calls Tryz.prog 18 #[strV xs] w fun e w' => ∃ v', e = .returned v' ∧ OwnB w' w.heap.size v' (put4 xs.length ++ qCut xs) ∧ Below w.heap.size w w' := by
  obtain ⟨v, w1, hcv, hr, hb⟩ := convert_str xs (by omega) w
  have HR := Lib.hid (OPut_any hr hx)
  clear hr hx
  generalize strV xs = sv at hcv ⊢
  go_enter Tryz.func18, Tryz.ntmps18
  go_wp2_with (go_at_call 17; (refine Calls.mono HR.out ?_); rintro e w2 ⟨v2, rfl, o2, b2⟩)
  go_ret
  exact ⟨_, rfl, o2.mono hb.size, bl_then hb b2⟩
end Go.Proofs.YtgmhapjidbdhnaaGreat
namespace Go.Proofs.YtgmhapjidbdhnaaGreat
open Go.RowKit
theorem OwnB.one (w : World) (x : UInt8) : OwnB (w.alloc (.cells #[.int .u8 x.toNat] 5)) w.heap.size (.slice (some ⟨w.heap.size, 0, none⟩) 1 1) [x] :=
  ⟨rfl, .inr ⟨w.heap.size, 1, _, rfl, Nat.le_refl _, heap_alloc_new _ _, Nat.le_refl _, by decide, rfl, rfl⟩⟩
theorem OwnB.slice' {w : World} {base m : Nat} {v : Value} {bs : List UInt8} (h : OwnB w base v bs) (hl : bs.length = m) (hp : 0 < m) :
    ∃ g cap, v = .slice (some ⟨g, 0, none⟩) m cap ∧ base ≤ g ∧ m ≤ cap ∧ cap ≤ 9223372036854775807 ∧ Bs w (some ⟨g, 0, none⟩) m bs := by
  subst hl
  obtain ⟨g, cap, rfl, hb, hg, h1, h2, hc⟩ := h.slice hp
  refine ⟨g, cap, rfl, hb, h1, h2, rfl, by omega, fun _ => ⟨g, 0, rfl, hg, fun j hj => ?_⟩⟩
  have := hc j (.int .u8 (bs.getD j 0).toNat) (by simp [u8s, List.getElem?_eq_getElem hj])
  rwa [Addr.add_lit] at this
section
variable {A B : Option Addr} {n cap cap2 : Nat} {xs ys : List UInt8} {w : World}
set_option maxRecDepth 100000 in
set_option maxHeartbeats 1000000 in
theorem Beyond_one (g m : Nat) (hm : m ≤ 9223372036854775807) (h0 : w.cell? ⟨g, 0, none⟩ = some (.int .i64 m)) :
    Calls Tryz.prog 16 #[.slice (some ⟨g, 0, none⟩) 1 1] w fun e w' => e = .returned (.bool (decide (1048576 < m))) ∧ w = w' := by
  by_cases hb : 1048576 < m
  · have hd : decide ((1048576 : Int) < (m : Int)) = true := by simp; omega
    rw [decide_eq_true hb]
    go_enter Tryz.func16, Tryz.ntmps16
    go_wp2_with fail
    go_loop [3, 4] (fun v i => v = .int .i64 0 ∧ i = .int .i64 0) (fun _ i => 1 - (intOf i).toNat)
    case atStart => exact ⟨rfl, rfl⟩
    case round =>
      obtain ⟨rfl, rfl⟩ := hrel
      go_wp2
      go_ret
      exact ⟨rfl, rfl⟩
  · have hd : decide ((1048576 : Int) < (m : Int)) = false := by simp; omega
    rw [decide_eq_false hb]
    go_enter Tryz.func16, Tryz.ntmps16
    go_wp2_with fail
    go_loop [3, 4] (fun v i => (v = .int .i64 0 ∧ i = .int .i64 0) ∨ (v = .int .i64 m ∧ i = .int .i64 1)) (fun _ i => 1 - (intOf i).toNat)
    case atStart => exact .inl ⟨rfl, rfl⟩
    case round =>
      rcases hrel with ⟨rfl, rfl⟩ | ⟨rfl, rfl⟩
      · go_wp2
        go_round
        case rel => exact .inr ⟨by simp, rfl⟩
        case measure => simp [intOf]
      · go_wp2
        go_ret
        exact ⟨rfl, rfl⟩
end
end Go.Proofs.YtgmhapjidbdhnaaGreat
namespace Go.Proofs.YtgmhapjidbdhnaaGreat
open Go.RowKit
theorem OwnL.made (w : World) (l : List Value) (t : TypeId) : OwnL (w.alloc (.cells l.toArray t)) w.heap.size l := ⟨by simp, fun o => by simp [go_sem], fun o => by simp [go_sem]⟩
theorem wpList_store_new {P : Program} {ops : Array Oper} {rest : List Oper} {op : Oper} {a : Act} {w : World} {Q : Exit → Act → World → Prop} (hgd : op.guard = none) (ty : TypeId) (x y : Operand) (ho : op.op = .store ty x y)
    {zs : List Value} (cs : List Value) (hx : a.eval x = .pointer (some ⟨w.heap.size, 0, none⟩)) (hy : a.eval y = .agg cs.toArray) (hl : cs.length = zs.length) (hi : (P.info? ty).map (·.size) = some cs.length) (h1 : ∀ v ∈ cs, v.oneCell' = true)
    (h : ∀ wx, Below w.heap.size w wx → OwnL wx w.heap.size cs → wpList P ops Q rest (a.put op.dst undef) wx) : wpList P ops Q (op :: rest) a (w.alloc (.cells zs.toArray ty)) := by
  have hn := OwnL.made w zs ty
  refine wpList_store_mid hgd ty x y ho w.heap.size 0 cs.toArray hx hy ?_ ?_ (all_oneCell_toArray h1) (h _ (bl_setCells (bl_alloc (Below.refl _ _) _) (Nat.le_refl _)) (hn.sets hl))
  · have := hn.there; simpa [hl] using this
  · simpa using hi
theorem OwnL.belowm {w w' : World} {b m : Nat} {l : List Value} (h : OwnL w b l) (hb : Below m w w') (hm : b < m) : OwnL w' b l :=
  ⟨Nat.lt_of_lt_of_le h.1 hb.size, fun o => (hb.cell (p := ⟨b, o, none⟩) hm).trans (h.2.1 o), fun o => (hb.frozen (p := ⟨b, o, none⟩) hm).trans (h.2.2 o)⟩
theorem OwnL.trk {w w' : World} {b : Nat} {l : List Value} (h : OwnL w b l) (hb : Below w.heap.size w w') : OwnL w' b l := h.belowm hb h.1
theorem OwnL.load {P : Program} {w : World} {b : Nat} {l : List Value} {ty : TypeId} (h : OwnL w b l) (d : TypeDesc) (hu : P.underlying ty = some d) (hd : d.isRow = true) (hi : (P.info? ty).map (·.size) = some l.length) :
    (Instr.loadAt ty (.pointer (some ⟨b, 0, none⟩))).run P w = .ok (.agg l.toArray) w := run_loadAt_mid w b 0 ty l d h.range hu hd hi
set_option maxRecDepth 100000 in
theorem oper_append_bs {w : World} {o : Oper} {a : Act} {K : Act → World → Prop} {Q : Exit → Act → World → Prop} {base n cap : Nat} {v : Value} {A : Option Addr} {xs ys : List UInt8} (s x : Operand)
    (ho : o.op = .call { callee := .builtin .append, args := #[s, x], argTypes := #[24, 24] })
    (hs : a.eval s = v) (hx : a.eval x = .slice A n cap) (h1 : OwnB w base v xs) (h2 : Bs w A n ys) (hnil : A = none → cap = 0) (hlen : xs.length + n ≤ 1099511627776) (hbase : base ≤ w.heap.size)
    (h : ∀ v' w', OwnB w' base v' (xs ++ ys) → Below base w w' → K (a.put o.dst v') w') : Oper.wp Tryz.prog o a w K Q := by
  obtain ⟨i0, hi, hz⟩ : ∃ i0, Tryz.prog.info? 5 = some i0 ∧ (i0.zero, i0.size, i0.bytes) = (some (.int .u8 0), 1, 1) := by
    have hi := info_u8
    cases he : Tryz.prog.info? 5 with
    | none => rw [he] at hi; cases hi
    | some i0 => rw [he] at hi; exact ⟨i0, rfl, by simpa using hi⟩
  simp only [Prod.mk.injEq] at hz
  have h1' := h1
  unfold OwnB at h1'
  cases A with
  | none =>
    have hn : n = 0 := by
      rcases Nat.eq_zero_or_pos n with h0 | hp
      · exact h0
      · obtain ⟨b, off, e, _⟩ := h2.2.2 hp; cases e
    subst hn
    rw [hnil rfl] at hx
    have hy : ys = [] := List.eq_nil_of_length_eq_zero h2.1
    have hrun := run_append_owned_none (P := Tryz.prog) (w := w) base 24 o.type 5 i0 1 Tryz.underlying24 hi v _ _ h1'
    have := h v w (by rw [hy, List.append_nil]; exact h1) (Below.refl _ _)
    unfold Oper.wp
    simp [execOp, ho, resolve, invoke, builtin, hs, hx, hrun, Result.andThen]
    exact this
  | some ad =>
    have hcell : ∀ j u, (u8s ys)[j]? = some u → w.cell? (ad.add j) = some u := fun j u hu => by
      have hj : j < ys.length := by have := (List.getElem?_eq_some_iff.1 hu).1; simpa [u8s] using this
      obtain ⟨b, off, e, hl, hc⟩ := h2.2.2 (by rw [← h2.1]; omega)
      injection e with e; subst e
      rw [Addr.add_lit, hc j (by rw [← h2.1]; exact hj), ← hu]
      simp [u8s, List.getD, List.getElem?_eq_getElem hj]
    refine wp_append_own w s x 24 ho base 5 i0 (.int .u8 0) 1 1 Tryz.underlying24 hi hz.1 hz.2.1 hz.2.2 rfl (by decide) v _ _ hs h1' ad n cap (u8s ys) hx (by simp [u8s, h2.1]) hcell (by intro u hu; obtain ⟨y, _, rfl⟩ := List.mem_map.1 hu; rfl) (by unfold maxLen; omega) (by omega) hbase ?_
    intro v' w' ho' hg' _
    refine h v' w' ?_ ⟨hg'.os, hg'.tape, hg'.output, hg'.size, fun i hi => hg'.block i (by omega) ?_⟩
    · rw [← u8s_append] at ho'
      unfold OwnB
      rw [List.length_append, h2.1]
      exact ho'
    · rcases h1.2 with ⟨rfl, _⟩ | ⟨g1, c1, cur1, rfl, hb1, _⟩
      · simp [Value.ownBlock]
      · simp [Value.ownBlock]; omega
theorem wp_append_bs {w : World} {ops : Array Oper} {rest : List Oper} {o : Oper} {a : Act} {Q : Exit → Act → World → Prop} {base n cap : Nat} {v : Value} {A : Option Addr} {xs ys : List UInt8} (hgd : o.guard = none) (s x : Operand)
    (ho : o.op = .call { callee := .builtin .append, args := #[s, x], argTypes := #[24, 24] })
    (hs : a.eval s = v) (hx : a.eval x = .slice A n cap) (h1 : OwnB w base v xs) (h2 : Bs w A n ys) (hnil : A = none → cap = 0) (hlen : xs.length + n ≤ 1099511627776) (hbase : base ≤ w.heap.size)
    (h : ∀ v' w', OwnB w' base v' (xs ++ ys) → Below base w w' → wpList Tryz.prog ops Q rest (a.put o.dst v') w') : wpList Tryz.prog ops Q (o :: rest) a w :=
  wpList_plain hgd fun _ hK => oper_append_bs s x ho hs hx h1 h2 hnil hlen hbase fun v' w' a b => hK _ _ (h v' w' a b)
theorem take_ext {xs ys : List UInt8} {k : Nat} (h1 : k < xs.length) (h2 : k < ys.length) (h : xs.take k = ys.take k) : xs.take (k + 1) = ys.take (k + 1) ↔ xs.getD k 0 = ys.getD k 0 := by
  rw [List.take_succ_eq_append_getElem h1, List.take_succ_eq_append_getElem h2, h, List.append_cancel_left_eq]
  simp [List.getD, List.getElem?_eq_getElem h1, List.getElem?_eq_getElem h2]
section
variable {A B : Option Addr} {n m cap cap2 : Nat} {xs ys : List UInt8} {w : World}
set_option maxRecDepth 100000 in
set_option maxHeartbeats 1000000 in
theorem Same_len (hA : Bs w A n xs) (hB : Bs w B m ys) (hne : n ≠ m) :
    Calls Tryz.prog 15 #[.slice A n cap, .slice B m cap2] w fun e w' => e = .returned (.bool false) ∧ w = w' := by
  have h1 := hA.2.1; have h2 := hB.2.1
  have hd : ((n : Int) == m) = false := by simp; omega
  clear hA hB hne
  go_enter Tryz.func15, Tryz.ntmps15
  go_wp2_with fail
  go_ret
  exact ⟨rfl, rfl⟩
set_option maxRecDepth 100000 in
set_option maxHeartbeats 1000000 in
theorem Same_go (hA : Bs w A n xs) (hB : Bs w B n ys) :
    Calls Tryz.prog 15 #[.slice A n cap, .slice B n cap2] w fun e w' => e = .returned (.bool (decide (xs = ys))) ∧ Below w.heap.size w w' := by
  have h1 := hA.2.1
  have HA := Lib.hid hA; have HB := Lib.hid hB
  clear hA hB
  go_enter Tryz.func15, Tryz.ntmps15
  go_wp2_with fail
  go_loopw [5] (fun i wr => ∃ k : Nat, k ≤ n ∧ i = .int .i64 k ∧ xs.take k = ys.take k ∧ ∃ m, wr = w.drewN m) (fun i _ => n - (intOf i).toNat)
  case atStart => exact ⟨0, by omega, rfl, rfl, 0, rfl⟩
  case round =>
    obtain ⟨k, hk, rfl, htk, m, rfl⟩ := hrel
    have HT := Lib.hid htk; clear htk
    by_cases hlt : k < n
    · obtain ⟨b, off, rfl, hl, hcell⟩ := HA.out.2.2 (by omega)
      obtain ⟨b2, off2, rfl, hl2, hcell2⟩ := HB.out.2.2 (by omega)
      have hc1 := hcell k hlt
      have hc2 := hcell2 k hlt
      have HX := Lib.hid (take_ext (by rw [HA.out.1]; exact hlt) (by rw [HB.out.1]; exact hlt) HT.out)
      clear hcell hcell2 hl hl2
      by_cases he : xs.getD k 0 = ys.getD k 0
      · have HE := Lib.hid (HX.out.2 he)
        rw [he] at hc1
        clear he HX
        generalize (ys.getD k 0).toNat = c at hc1 hc2
        go_wp2_with fail
        go_quiet (fail)
        go_wp2
        go_roundw
        case rel => exact ⟨k + 1, by omega, by go_num, HE.out, _, rfl⟩
        case measure => simp [intOf]; omega
      · have hd : (((xs.getD k 0).toNat : Int) == ((ys.getD k 0).toNat : Int)) = false := by
          simp only [beq_eq_false_iff_ne, ne_eq]
          intro hh; exact he (UInt8.toNat.inj (by omega))
        have HF : Hid (xs ≠ ys) := Lib.hid (fun e => he (by rw [e]))
        clear he HX
        generalize (xs.getD k 0).toNat = c1 at hc1 hd
        generalize (ys.getD k 0).toNat = c2 at hc2 hd
        go_wp2_with fail
        go_quiet (fail)
        go_wp2
        go_ret
        exact ⟨by rw [decide_eq_false HF.out]; rfl, by (with_reducible (repeat' (first | exact Below.refl _ _ | assumption | apply bl_alloc | apply bl_drewN | apply bl_drew | refine bl_set ?_ ?_ _))) <;> (first | done | (simp; done) | (simp; omega) | omega)⟩
    · obtain rfl : k = n := by omega
      have HF : Hid (xs = ys) := Lib.hid (by have := HT.out; rwa [List.take_of_length_le (by rw [HA.out.1]; exact Nat.le_refl _), List.take_of_length_le (by rw [HB.out.1]; exact Nat.le_refl _)] at this)
      go_wp2_with fail
      go_ret
      exact ⟨by rw [decide_eq_true HF.out]; rfl, by (with_reducible (repeat' (first | exact Below.refl _ _ | assumption | apply bl_alloc | apply bl_drewN | apply bl_drew | refine bl_set ?_ ?_ _))) <;> (first | done | (simp; done) | (simp; omega) | omega)⟩
theorem Same_any (hA : Bs w A n xs) (hB : Bs w B m ys) :
    Calls Tryz.prog 15 #[.slice A n cap, .slice B m cap2] w fun e w' => e = .returned (.bool (decide (xs = ys))) ∧ Below w.heap.size w w' := by
  by_cases h : n = m
  · subst h; exact Same_go hA hB
  · refine (Same_len hA hB h).mono ?_
    rintro e w' ⟨rfl, rfl⟩
    exact ⟨by rw [decide_eq_false]; intro hh; exact h (by rw [← hA.1, ← hB.1, hh]), Below.refl _ _⟩
end
end Go.Proofs.YtgmhapjidbdhnaaGreat
namespace Go.Proofs.YtgmhapjidbdhnaaGreat
open Go.RowKit
/-- The Road's cells. -/
def roadC (v : Value) (k : Nat) (rd : Bool) (e : Int) : List Value := [v, .int .i64 k, .bool rd, .int .i64 e]
def mustE (rd : Bool) (e : Int) (is : Bool) : Int := if e = 0 then (if is = true then 0 else if rd = true then 5 else 1) else e
theorem OwnL.put {w : World} {b : Nat} {l : List Value} (h : OwnL w b l) (o : Nat) (v : Value) (ho : o < l.length) : OwnL (w.setCell ⟨b, o, none⟩ v) b (l.set o v) := h.set_ ho
set_option maxRecDepth 100000 in
set_option maxHeartbeats 2000000 in
theorem Must_any {R k : Nat} {v : Value} {rd : Bool} {e : Int} {w : World} (is : Bool) (h : OwnL w R (roadC v k rd e)) :
    Calls Tryz.prog 26 #[.pointer (some ⟨R, 0, none⟩), .bool is] w fun en w' => en = .returned (.tuple #[]) ∧ OwnL w' R (roadC v k rd (mustE rd e is)) ∧ Only (· = R) w w' := by
  have h2 : w.cell? ⟨R, 2, none⟩ = some (.bool rd) := h.2.1 2
  have h3 : w.cell? ⟨R, 3, none⟩ = some (.int .i64 e) := h.2.1 3
  have hf := h.2.2 3
  have hR := h.1
  have H := Lib.hid h
  clear h
  by_cases he : e = 0
  · subst he
    cases is
    · cases rd
      · go_enter Tryz.func26, Tryz.ntmps26
        go_wp2
        go_end0
        exact ⟨rfl, H.out.put 3 _ (Nat.le_of_ble_eq_true rfl), (Only.refl (· = R) _).setCell (p := ⟨R, 3, none⟩) (.inr rfl) _⟩
      · go_enter Tryz.func26, Tryz.ntmps26
        go_wp2
        go_end0
        exact ⟨rfl, H.out.put 3 _ (Nat.le_of_ble_eq_true rfl), (Only.refl (· = R) _).setCell (p := ⟨R, 3, none⟩) (.inr rfl) _⟩
    · go_enter Tryz.func26, Tryz.ntmps26
      go_wp2
      go_end0
      exact ⟨rfl, H.out, Only.refl _ _⟩
  · have e1 : mustE rd e is = e := if_neg he
    rw [e1]
    go_enter Tryz.func26, Tryz.ntmps26
    go_wp2
    go_end0
    exact ⟨rfl, H.out, Only.refl _ _⟩
end Go.Proofs.YtgmhapjidbdhnaaGreat

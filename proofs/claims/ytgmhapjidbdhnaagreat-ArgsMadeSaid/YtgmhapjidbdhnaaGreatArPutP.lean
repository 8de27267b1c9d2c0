/- What procedures that have few parts put, as bytes. No program in sight. -/
import Derived.Test.YtgmhapjidbdhnaaGreatJI
set_option linter.unusedVariables false
set_option linter.unusedSimpArgs false
namespace Go.Proofs.YtgmhapjidbdhnaaGreat
open Go.RowKit
/-- Bytes with how many they are ahead, filled up. -/
def opqB (x : List UInt8) : List UInt8 := put4 x.length ++ qCut x
theorem qOpq_le {m : Nat} {x : List UInt8} (h : x.length ≤ m) : qOpq m x = .ok (opqB x) := if_pos h
theorem qOpq_gt {m : Nat} {x : List UInt8} (h : ¬ x.length ≤ m) : qOpq m x = .error 1 := if_neg h
theorem putA_bad {a : Ar} {er : Int} (h : seqW (partsOf a.proc) a = .error er) : putA a = .error 1 := by
  unfold putA
  split
  · rfl
  · rw [h]
theorem cat2_okk (x y : List UInt8) : cat2 (.ok x) (.ok y) = .ok (x ++ y) := rfl
theorem cat2_err (e : Int) (y : Except Int (List UInt8)) : cat2 (.error e) y = .error e := rfl
theorem cat2_oke (x : List UInt8) (e : Int) : cat2 (.ok x) (.error e) = .error e := rfl
theorem seqW_nil (a : Ar) : seqW [] a = .ok [] := rfl
theorem stz : St.zero.wf := ⟨by decide, by decide, by decide, by decide, by decide, ⟨by decide, by decide⟩, by decide, ⟨by decide, by decide⟩⟩
section
variable {p : Nat} {h name h2 name2 data target : List UInt8}
theorem put_alone (hp : p ≤ 21) (hq : partsOf p = [ptH]) : putA {Ar.zero p with h := h} = if h.length ≤ 64 then .ok (opqB h) else .error 1 := by
  by_cases g : h.length ≤ 64
  · rw [if_pos g]
    refine putA_of (a := {Ar.zero p with h := h}) hp (wf := fun v => v.h.length ≤ 64 ∧ v = {Ar.zero p with h := v.h}) ?_ ⟨g, rfl⟩ ?_
    · show Lawful (seqR (partsOf p) (Ar.zero p)) (seqW (partsOf p)) _
      rw [hq]; exact law_alone p
    · show seqW (partsOf p) _ = _
      rw [hq]
      simp only [seqW_cons, seqW_nil, ptH, fieldP, qOpq_le g, cat2_okk, List.append_nil]
  · rw [if_neg g]
    refine putA_bad (a := {Ar.zero p with h := h}) (er := 1) ?_
    show seqW (partsOf p) _ = _
    rw [hq]
    simp only [seqW_cons, seqW_nil, ptH, fieldP, qOpq_gt g, cat2_err]
theorem put_named (hp : p ≤ 21) (hq : partsOf p = [ptH, ptName]) : putA {Ar.zero p with h := h, name := name} = if h.length ≤ 64 ∧ name.length ≤ 1024 then .ok (opqB h ++ opqB name) else .error 1 := by
  by_cases g : h.length ≤ 64
  · by_cases k : name.length ≤ 1024
    · rw [if_pos ⟨g, k⟩]
      refine putA_of (a := {Ar.zero p with h := h, name := name}) hp (wf := fun v => v.h.length ≤ 64 ∧ v.name.length ≤ 1024 ∧ v = {Ar.zero p with h := v.h, name := v.name}) ?_ ⟨g, k, rfl⟩ ?_
      · show Lawful (seqR (partsOf p) (Ar.zero p)) (seqW (partsOf p)) _
        rw [hq]; exact law_named p
      · show seqW (partsOf p) _ = _
        rw [hq]
        simp only [seqW_cons, seqW_nil, ptH, ptName, fieldP, qOpq_le g, qOpq_le k, cat2_okk, List.append_nil]
    · rw [if_neg (fun h => k h.2)]
      refine putA_bad (a := {Ar.zero p with h := h, name := name}) (er := 1) ?_
      show seqW (partsOf p) _ = _
      rw [hq]
      simp only [seqW_cons, seqW_nil, ptH, ptName, fieldP, qOpq_le g, qOpq_gt k, cat2_err, cat2_oke]
  · rw [if_neg (fun h => g h.1)]
    refine putA_bad (a := {Ar.zero p with h := h, name := name}) (er := 1) ?_
    show seqW (partsOf p) _ = _
    rw [hq]
    simp only [seqW_cons, seqW_nil, ptH, ptName, fieldP, qOpq_gt g, cat2_err]
theorem put_read {o c : Nat} (hp : p ≤ 21) (hq : partsOf p = [ptH, ptOffset, ptCount]) (g : h.length ≤ 64) (ho : o < 18446744073709551616) (hc : c < 4294967296) : putA {Ar.zero p with h := h, offset := o, count := c} = .ok (opqB h ++ (put8 o ++ put4 c)) := by
  refine putA_of (a := {Ar.zero p with h := h, offset := o, count := c}) hp (wf := fun v => v.h.length ≤ 64 ∧ v.offset < 18446744073709551616 ∧ v.count < 4294967296 ∧ v = {Ar.zero p with h := v.h, offset := v.offset, count := v.count}) ?_ ⟨g, ho, hc, rfl⟩ ?_
  · show Lawful (seqR (partsOf p) (Ar.zero p)) (seqW (partsOf p)) _
    rw [hq]; exact law_read p
  · show seqW (partsOf p) _ = _
    rw [hq]
    simp only [seqW_cons, seqW_nil, ptH, ptOffset, ptCount, fieldP, q4, q8, qOpq_le g, cat2_okk, List.append_nil]
theorem put_write {o c s : Nat} (g : h.length ≤ 64) (ho : o < 18446744073709551616) (hc : c < 4294967296) : putA {Ar.zero 7 with h := h, offset := o, count := c, stable := s, data := data} = if s ≤ 2 ∧ data.length ≤ 32768 then .ok (opqB h ++ (put8 o ++ (put4 c ++ (put4 s ++ opqB data)))) else .error 1 := by
  have hq : partsOf 7 = [ptH, ptOffset, ptCount, ptStable, ptData] := rfl
  by_cases hs : s ≤ 2
  · by_cases k : data.length ≤ 32768
    · rw [if_pos ⟨hs, k⟩]
      refine putA_of (a := {Ar.zero 7 with h := h, offset := o, count := c, stable := s, data := data}) (Nat.le_of_ble_eq_true rfl) (law_write 7) ⟨g, ho, hc, hs, k, rfl⟩ ?_
      show seqW (partsOf 7) _ = _
      rw [hq]
      simp only [seqW_cons, seqW_nil, ptH, ptOffset, ptCount, ptStable, ptData, fieldP, q4, q8, qOpq_le g, qOpq_le k, qSmall, if_pos hs, cat2_okk, List.append_nil]
    · rw [if_neg (fun h => k h.2)]
      refine putA_bad (a := {Ar.zero 7 with h := h, offset := o, count := c, stable := s, data := data}) (er := 1) ?_
      show seqW (partsOf 7) _ = _
      rw [hq]
      simp only [seqW_cons, seqW_nil, ptH, ptOffset, ptCount, ptStable, ptData, fieldP, q4, q8, qOpq_le g, qOpq_gt k, qSmall, if_pos hs, cat2_okk, cat2_err, cat2_oke, List.append_nil]
  · rw [if_neg (fun h => hs h.1)]
    refine putA_bad (a := {Ar.zero 7 with h := h, offset := o, count := c, stable := s, data := data}) (er := 1) ?_
    show seqW (partsOf 7) _ = _
    rw [hq]
    simp only [seqW_cons, seqW_nil, ptH, ptOffset, ptCount, ptStable, ptData, fieldP, q4, q8, qOpq_le g, qSmall, if_neg hs, cat2_okk, cat2_err, cat2_oke, List.append_nil]
theorem put_rename (g : h.length ≤ 64) (k : name.length ≤ 1024) (g2 : h2.length ≤ 64) (k2 : name2.length ≤ 1024) : putA {Ar.zero 14 with h := h, name := name, h2 := h2, name2 := name2} = .ok (opqB h ++ (opqB name ++ (opqB h2 ++ opqB name2))) := by
  have hq : partsOf 14 = [ptH, ptName, ptH2, ptName2] := rfl
  refine putA_of (a := {Ar.zero 14 with h := h, name := name, h2 := h2, name2 := name2}) (Nat.le_of_ble_eq_true rfl) (law_rename 14) ⟨g, k, g2, k2, rfl⟩ ?_
  show seqW (partsOf 14) _ = _
  rw [hq]
  simp only [seqW_cons, seqW_nil, ptH, ptName, ptH2, ptName2, fieldP, qOpq_le g, qOpq_le g2, qOpq_le k, qOpq_le k2, cat2_okk, List.append_nil]
theorem put_link (g : h.length ≤ 64) (g2 : h2.length ≤ 64) (k2 : name2.length ≤ 1024) : putA {Ar.zero 15 with h := h, h2 := h2, name2 := name2} = .ok (opqB h ++ (opqB h2 ++ opqB name2)) := by
  have hq : partsOf 15 = [ptH, ptH2, ptName2] := rfl
  refine putA_of (a := {Ar.zero 15 with h := h, h2 := h2, name2 := name2}) (Nat.le_of_ble_eq_true rfl) (law_link 15) ⟨g, g2, k2, rfl⟩ ?_
  show seqW (partsOf 15) _ = _
  rw [hq]
  simp only [seqW_cons, seqW_nil, ptH, ptH2, ptName2, fieldP, qOpq_le g, qOpq_le g2, qOpq_le k2, cat2_okk, List.append_nil]
theorem put_readdir {o c : Nat} (g : h.length ≤ 64) (ho : o < 18446744073709551616) (hc : c < 4294967296) : putA {Ar.zero 16 with h := h, cookie := o, count := c} = .ok (opqB h ++ (put8 o ++ (List.replicate 8 0 ++ put4 c))) := by
  have hq : partsOf 16 = [ptH, ptCookie, ptVerf, ptCount] := rfl
  refine putA_of (a := {Ar.zero 16 with h := h, cookie := o, count := c}) (Nat.le_of_ble_eq_true rfl) (law_readdir 16) ⟨g, ho, rfl, hc, rfl⟩ ?_
  show seqW (partsOf 16) _ = _
  rw [hq]
  simp only [seqW_cons, seqW_nil, ptH, ptCookie, ptVerf, qVerf, ptCount, fieldP, q4, q8, qOpq_le g, cat2_okk, List.append_nil]
  rfl
theorem put_readdirplus {o c m : Nat} (g : h.length ≤ 64) (ho : o < 18446744073709551616) (hc : c < 4294967296) (hm : m < 4294967296) : putA {Ar.zero 17 with h := h, cookie := o, count := c, max := m} = .ok (opqB h ++ (put8 o ++ (List.replicate 8 0 ++ (put4 c ++ put4 m)))) := by
  have hq : partsOf 17 = [ptH, ptCookie, ptVerf, ptCount, ptMax] := rfl
  refine putA_of (a := {Ar.zero 17 with h := h, cookie := o, count := c, max := m}) (Nat.le_of_ble_eq_true rfl) (law_readdirplus 17) ⟨g, ho, rfl, hc, hm, rfl⟩ ?_
  show seqW (partsOf 17) _ = _
  rw [hq]
  simp only [seqW_cons, seqW_nil, ptH, ptCookie, ptVerf, qVerf, ptCount, ptMax, fieldP, q4, q8, qOpq_le g, cat2_okk, List.append_nil]
  rfl
/-- What is put of what is to be set, if it may be. -/
theorem put_made {s : St} (hs : s.wf) (hp : p = 9) : putA {Ar.zero p with h := [1], name := [110], set := s} = (match rSet s with | .ok b => .ok (opqB [1] ++ (opqB [110] ++ b)) | .error _ => .error 1) := by
  subst hp
  have hq : partsOf 9 = [ptH, ptName, ptSet] := rfl
  rcases e : rSet s with er | b
  · refine putA_bad (a := {Ar.zero 9 with h := [1], name := [110], set := s}) (er := er) ?_
    show seqW (partsOf 9) _ = _
    rw [hq]
    simp only [seqW_cons, seqW_nil, ptH, ptName, ptSet, fieldP, qOpq_le (show [(1 : UInt8)].length ≤ 64 by decide), qOpq_le (show [(110 : UInt8)].length ≤ 1024 by decide), e, cat2_okk, cat2_err, cat2_oke, List.append_nil]
  · refine putA_of (a := {Ar.zero 9 with h := [1], name := [110], set := s}) (Nat.le_of_ble_eq_true rfl) (law_mkdir 9) ⟨Nat.le_of_ble_eq_true rfl, Nat.le_of_ble_eq_true rfl, hs, rfl⟩ ?_
    show seqW (partsOf 9) _ = _
    rw [hq]
    simp only [seqW_cons, seqW_nil, ptH, ptName, ptSet, fieldP, qOpq_le (show [(1 : UInt8)].length ≤ 64 by decide), qOpq_le (show [(110 : UInt8)].length ≤ 1024 by decide), e, cat2_okk, List.append_nil]
theorem put_create {s : St} {i : Nat} (hs : s.wf) (hi : i ≤ 1) : putA {Ar.zero 8 with h := [1], name := [110], set := s, how := i} = (match rSet s with | .ok b => .ok (opqB [1] ++ (opqB [110] ++ (put4 i ++ b))) | .error _ => .error 1) := by
  have hq : partsOf 8 = [ptH, ptName, ptHow, ifP (fun a => a.how == 2) [ptVerf], ifP (fun a => a.how != 2) [ptSet]] := rfl
  have h2 : (i == 2) = false := by simp; omega
  have h3 : (i != 2) = true := by simp; omega
  have h4 : i ≤ 2 := by omega
  rcases e : rSet s with er | b
  · refine putA_bad (a := {Ar.zero 8 with h := [1], name := [110], set := s, how := i}) (er := er) ?_
    show seqW (partsOf 8) _ = _
    rw [hq]
    simp only [seqW_cons, seqW_nil, ptH, ptName, ptHow, ptVerf, qVerf, ptSet, ifP, h2, h3, qSmall, if_pos h4, fieldP, qOpq_le (show [(1 : UInt8)].length ≤ 64 by decide), qOpq_le (show [(110 : UInt8)].length ≤ 1024 by decide), e, cat2_okk, cat2_err, cat2_oke, List.append_nil, if_true, if_false, Bool.false_eq_true]
  · refine putA_of (a := {Ar.zero 8 with h := [1], name := [110], set := s, how := i}) (Nat.le_of_ble_eq_true rfl) (law_create 8) ⟨Nat.le_of_ble_eq_true rfl, Nat.le_of_ble_eq_true rfl, h4, rfl, hs, fun h => absurd h (by show i ≠ 2; omega), fun _ => rfl, rfl⟩ ?_
    show seqW (partsOf 8) _ = _
    rw [hq]
    simp only [seqW_cons, seqW_nil, ptH, ptName, ptHow, ptVerf, qVerf, ptSet, ifP, h2, h3, qSmall, if_pos h4, fieldP, qOpq_le (show [(1 : UInt8)].length ≤ 64 by decide), qOpq_le (show [(110 : UInt8)].length ≤ 1024 by decide), e, cat2_okk, cat2_err, cat2_oke, List.append_nil, List.nil_append, if_true, if_false, Bool.false_eq_true]
theorem put_symlink {s : St} (hs : s.wf) : putA {Ar.zero 10 with h := [1], name := [110], set := s, target := target} = (match rSet s with | .ok b => if target.length ≤ 1024 then .ok (opqB [1] ++ (opqB [110] ++ (b ++ opqB target))) else .error 1 | .error _ => .error 1) := by
  have hq : partsOf 10 = [ptH, ptName, ptSet, ptTarget] := rfl
  rcases e : rSet s with er | b
  · refine putA_bad (a := {Ar.zero 10 with h := [1], name := [110], set := s, target := target}) (er := er) ?_
    show seqW (partsOf 10) _ = _
    rw [hq]
    simp only [seqW_cons, seqW_nil, ptH, ptName, ptSet, ptTarget, fieldP, qOpq_le (show [(1 : UInt8)].length ≤ 64 by decide), qOpq_le (show [(110 : UInt8)].length ≤ 1024 by decide), e, cat2_okk, cat2_err, cat2_oke, List.append_nil]
  · dsimp only
    by_cases g : target.length ≤ 1024
    · rw [if_pos g]
      refine putA_of (a := {Ar.zero 10 with h := [1], name := [110], set := s, target := target}) (Nat.le_of_ble_eq_true rfl) (law_symlink 10) ⟨Nat.le_of_ble_eq_true rfl, Nat.le_of_ble_eq_true rfl, hs, g, rfl⟩ ?_
      show seqW (partsOf 10) _ = _
      rw [hq]
      simp only [seqW_cons, seqW_nil, ptH, ptName, ptSet, ptTarget, fieldP, qOpq_le g, qOpq_le (show [(1 : UInt8)].length ≤ 64 by decide), qOpq_le (show [(110 : UInt8)].length ≤ 1024 by decide), e, cat2_okk, List.append_nil]
    · rw [if_neg g]
      refine putA_bad (a := {Ar.zero 10 with h := [1], name := [110], set := s, target := target}) (er := 1) ?_
      show seqW (partsOf 10) _ = _
      rw [hq]
      simp only [seqW_cons, seqW_nil, ptH, ptName, ptSet, ptTarget, fieldP, qOpq_gt g, qOpq_le (show [(1 : UInt8)].length ≤ 64 by decide), qOpq_le (show [(110 : UInt8)].length ≤ 1024 by decide), e, cat2_okk, cat2_err, cat2_oke, List.append_nil]
theorem put_excl {v : List UInt8} (hv : v.length = 8) : putA {Ar.zero 8 with h := [1], name := [110], how := 2, verf := v} = .ok (opqB [1] ++ (opqB [110] ++ (put4 2 ++ v))) := by
  have hq : partsOf 8 = [ptH, ptName, ptHow, ifP (fun a => a.how == 2) [ptVerf], ifP (fun a => a.how != 2) [ptSet]] := rfl
  refine putA_of (a := {Ar.zero 8 with h := [1], name := [110], how := 2, verf := v}) (Nat.le_of_ble_eq_true rfl) (law_create 8) ⟨Nat.le_of_ble_eq_true rfl, Nat.le_of_ble_eq_true rfl, Nat.le_of_ble_eq_true rfl, hv, stz, fun _ => rfl, fun h => absurd rfl h, rfl⟩ ?_
  show seqW (partsOf 8) _ = _
  rw [hq]
  simp only [seqW_cons, seqW_nil, ptH, ptName, ptHow, ptVerf, qVerf, ptSet, ifP, qSmall, fieldP, qOpq_le (show [(1 : UInt8)].length ≤ 64 by decide), qOpq_le (show [(110 : UInt8)].length ≤ 1024 by decide), cat2_okk, cat2_err, cat2_oke, List.append_nil, List.nil_append]
  show cat2 (.ok (opqB [1])) (cat2 (.ok (opqB [110])) (cat2 (.ok (put4 2)) (cat2 (.ok v) (cat2 (.ok []) (.ok []))))) = _
  simp only [cat2_okk, List.append_nil]
end
end Go.Proofs.YtgmhapjidbdhnaaGreat

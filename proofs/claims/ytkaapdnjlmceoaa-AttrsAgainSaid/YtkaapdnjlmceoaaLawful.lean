/- What is put is got, and what is got is put: readers and writers of bytes that fit. No program in sight. -/
import Derived.Test.YtkaapdnjlmceoaaDPutSetB
import Derived.Test.YtkaapdnjlmceoaaDPutWeak
import Derived.Test.YtkaapdnjlmceoaaRefGet
import Derived.Test.YtkaapdnjlmceoaaGoes
set_option linter.unusedVariables false
set_option linter.unusedSimpArgs false
namespace Go.Proofs.Ytkaapdnjlmceoaa
open Go.RowKit
/-- A reader and a writer that fit, over what may be written. -/
structure Lawful {α : Type} (p : Ps α) (q : α → Except Int (List UInt8)) (wf : α → Prop) : Prop where
  back : ∀ v bs, wf v → q v = .ok bs → ∀ c, p (bs ++ c) = .ok (v, bs.length)
  again : ∀ b v k, p b = .ok (v, k) → k ≤ b.length ∧ wf v ∧ q v = .ok (b.take k)
  short : ∀ v bs, wf v → q v = .ok bs → ∀ j, j < bs.length → p (bs.take j) = .error 4
/-- Two parts, one behind the other. -/
def cat2 (r s : Except Int (List UInt8)) : Except Int (List UInt8) := match r with | .error e => .error e | .ok b => match s with | .error e => .error e | .ok c => .ok (b ++ c)
theorem catP_cons (r : Except Int (List UInt8)) (rs : List (Except Int (List UInt8))) : catP (r :: rs) = cat2 r (catP rs) := by
  cases r with
  | error e => rfl
  | ok b => rfl
theorem catP_one (r : Except Int (List UInt8)) : catP [r] = r := by
  cases r with
  | error e => rfl
  | ok b => simp [catP]
theorem cat2_ok {r s : Except Int (List UInt8)} {bs : List UInt8} (h : cat2 r s = .ok bs) : ∃ b c, r = .ok b ∧ s = .ok c ∧ bs = b ++ c := by
  unfold cat2 at h
  rcases r with e | b
  · cases h
  · rcases s with e | c
    · cases h
    · injection h with h; exact ⟨b, c, rfl, rfl, h.symm⟩
namespace Lawful
variable {α β : Type}
theorem pure {x : α} {q : α → Except Int (List UInt8)} {wf : α → Prop} (hw : ∀ v, wf v ↔ v = x) (hq : q x = .ok []) : Lawful (Ps.pure x) q wf where
  back v bs hv h c := by
    obtain rfl := (hw v).1 hv
    rw [hq] at h; injection h with h; subst h; rfl
  again b v k h := by
    injection h with h; injection h with h1 h2; subst h1; subst h2
    exact ⟨Nat.zero_le _, (hw _).2 rfl, by rw [hq]; simp⟩
  short v bs hv h j hj := by
    obtain rfl := (hw v).1 hv
    rw [hq] at h; injection h with h; subst h; simp at hj
theorem bind {p : Ps α} {q1 : α → Except Int (List UInt8)} {wf1 : α → Prop} {f : α → Ps β} {q q2 : β → Except Int (List UInt8)} {wf : β → Prop} (proj : β → α)
    (h1 : Lawful p q1 wf1) (h2 : ∀ x, wf1 x → Lawful (f x) q2 (fun v => wf v ∧ proj v = x)) (hw : ∀ v, wf v → wf1 (proj v)) (hq : ∀ v, q v = cat2 (q1 (proj v)) (q2 v)) : Lawful (Ps.bind p f) q wf where
  back v bs hv h c := by
    rw [hq] at h
    obtain ⟨b, d, e1, e2, rfl⟩ := cat2_ok h
    rw [List.append_assoc, Ps.bind_ok (h1.back _ _ (hw v hv) e1 _), List.drop_left, (h2 _ (hw v hv)).back v d ⟨hv, rfl⟩ e2 c, List.length_append]
  again b v k h := by
    unfold Ps.bind at h
    rcases e1 : p b with e | ⟨x, j⟩
    · rw [e1] at h; cases h
    · rw [e1] at h
      dsimp only at h
      rcases e2 : f x (b.drop j) with e | ⟨y, m⟩
      · rw [e2] at h; cases h
      · rw [e2] at h
        injection h with h; injection h with ha hb; subst ha; subst hb
        obtain ⟨l1, w1, k1⟩ := h1.again _ _ _ e1
        obtain ⟨l2, ⟨w2, rfl⟩, k2⟩ := (h2 x w1).again _ _ _ e2
        rw [List.length_drop] at l2
        refine ⟨by omega, w2, ?_⟩
        rw [hq, k1, k2, cat2, List.take_add]
  short v bs hv h j hj := by
    rw [hq] at h
    obtain ⟨b, d, e1, e2, rfl⟩ := cat2_ok h
    rw [List.length_append] at hj
    by_cases hb : j < b.length
    · rw [List.take_append_of_le_length (by omega), Ps.bind_error (h1.short _ _ (hw v hv) e1 j hb)]
    · have e : (b ++ d).take j = b ++ d.take (j - b.length) := by rw [List.take_append, List.take_of_length_le (by omega)]
      rw [e, Ps.bind_ok (h1.back _ _ (hw v hv) e1 _), List.drop_left, (h2 _ (hw v hv)).short v d ⟨hv, rfl⟩ e2 _ (by omega)]
theorem need {c : Bool} {e : Int} {f : Unit → Ps β} {q : β → Except Int (List UInt8)} {wf : β → Prop} (hw : ∀ v, wf v → c = true) (h : c = true → Lawful (f ()) q wf) : Lawful (Ps.bind (Ps.need c e) f) q wf := by
  cases c with
  | true =>
    have := h rfl
    have e : Ps.bind (Ps.need true e) f = f () := by
      funext b
      simp only [Ps.bind, Ps.need, if_true, List.drop_zero]
      rcases f () b with e | ⟨x, m⟩
      · rfl
      · simp
    rw [e]; exact this
  | false =>
    refine ⟨fun v _ hv => ?_, fun b v k hb => ?_, fun v _ hv => ?_⟩
    · cases hw v hv
    · simp [Ps.bind, Ps.need] at hb
    · cases hw v hv
theorem weaken {p : Ps α} {q q' : α → Except Int (List UInt8)} {wf wf' : α → Prop} (h : Lawful p q wf) (hw : ∀ v, wf v ↔ wf' v) (hq : ∀ v, wf v → q v = q' v) : Lawful p q' wf' where
  back v bs hv e := h.back v bs ((hw v).2 hv) (by rw [hq v ((hw v).2 hv)]; exact e)
  again b v k e := by obtain ⟨l, w, k1⟩ := h.again b v k e; exact ⟨l, (hw v).1 w, by rw [← hq v w]; exact k1⟩
  short v bs hv e := h.short v bs ((hw v).2 hv) (by rw [hq v ((hw v).2 hv)]; exact e)
end Lawful
/-! ### numbers, yes and no, points of time, what is told of a node -/
theorem lawful_num : Lawful pNum (fun n => .ok (put4 n)) (· < 4294967296) where
  back v bs hv h c := by
    injection h with h; subst h
    rw [pNum, if_neg (by simp), List.take_append_of_le_length (by simp), List.take_of_length_le (by simp), beN_put4, Nat.mod_eq_of_lt hv]; rfl
  again b v k h := by
    unfold pNum at h
    split at h
    · cases h
    · injection h with h; injection h with h1 h2; subst h1; subst h2
      have hl : (b.take 4).length = 4 := by simp; omega
      have := beN_lt (b.take 4)
      rw [hl] at this
      exact ⟨by omega, this, by rw [put4_beN _ hl]⟩
  short v bs hv h j hj := by
    injection h with h; subst h
    rw [pNum, if_pos]
    simp at hj ⊢; omega
theorem lawful_long : Lawful pLong (fun n => .ok (put8 n)) (· < 18446744073709551616) where
  back v bs hv h c := by
    injection h with h; subst h
    rw [pLong, if_neg (by simp), List.take_append_of_le_length (by simp), List.take_of_length_le (by simp), beN_put8, Nat.mod_eq_of_lt hv]; rfl
  again b v k h := by
    unfold pLong at h
    split at h
    · cases h
    · injection h with h; injection h with h1 h2; subst h1; subst h2
      have hl : (b.take 8).length = 8 := by simp; omega
      have := beN_lt (b.take 8)
      rw [hl] at this
      exact ⟨by omega, this, by rw [put8_beN _ hl]⟩
  short v bs hv h j hj := by
    injection h with h; subst h
    rw [pLong, if_pos]
    simp at hj ⊢; omega
theorem lawful_yes : Lawful pYes (fun y => .ok (putYes y)) (fun _ => True) where
  back v bs hv h c := by
    injection h with h; subst h
    rw [pYes, if_neg (by simp [putYes]), List.take_append_of_le_length (by simp [putYes]), List.take_of_length_le (by simp [putYes])]
    cases v <;> rfl
  again b v k h := by
    unfold pYes at h
    split at h
    · cases h
    · split at h
      · cases h
      · injection h with h; injection h with h1 h2; subst h1; subst h2
        have hl : (b.take 4).length = 4 := by simp; omega
        refine ⟨by omega, trivial, ?_⟩
        rw [putYes]
        have : (if (beN (b.take 4) == 1) = true then 1 else 0) = beN (b.take 4) := by
          split
          · simp_all
          · simp_all; omega
        rw [this, put4_beN _ hl]
  short v bs hv h j hj := by
    injection h with h; subst h
    rw [pYes, if_pos]
    simp [putYes] at hj ⊢; omega
theorem putTm_eq (t : Tm) (h : t.wf) : putTm t = put8 (t.sec * 4294967296 + t.nano) := by
  have := h.2
  rw [putTm, put8, show (t.sec * 4294967296 + t.nano) / 4294967296 = t.sec by omega]
  congr 1
  rw [← put4_mod (t.sec * 4294967296 + t.nano), show (t.sec * 4294967296 + t.nano) % 4294967296 = t.nano by omega]
theorem tm_put (t : Tm) (h : t.wf) (c : List UInt8) : tm (putTm t ++ c) 0 = t := by
  have h1 := h.1; have h2 := h.2
  have e : f8 (putTm t ++ c) 0 = t.sec * 4294967296 + t.nano := by
    rw [f8, List.drop_zero, List.take_append_of_le_length (by simp [putTm_length]), List.take_of_length_le (by simp [putTm_length]), putTm_eq t h, beN_put8]
    omega
  rw [tm, e]
  obtain ⟨s, n⟩ := t
  simp only [Tm.mk.injEq] at *
  omega
theorem lawful_time : Lawful pTime rTime Tm.wf where
  back v bs hv h c := by
    unfold rTime at h
    split at h
    · injection h with h; subst h
      rw [pTime_ok (by simp [putTm_length]) (by rw [tm_put v hv]; assumption), tm_put v hv]; rfl
    · cases h
  again b v k h := by
    unfold pTime at h
    split at h
    · cases h
    · split at h
      · injection h with h; injection h with h1 h2
        have hv : v = tm b 0 := by rw [← h1]; rfl
        subst h2
        refine ⟨by omega, by rw [hv]; exact tm_wf b 0, ?_⟩
        have hok : (tm b 0).ok = true := by simpa [Tm.ok, tm, f8] using ‹_›
        rw [hv, rTime, if_pos hok, putTm_tm (by omega)]; simp
      · cases h
  short v bs hv h j hj := by
    unfold rTime at h
    split at h
    · injection h with h; subst h
      rw [pTime, if_pos]
      simp [putTm_length] at hj ⊢; omega
    · cases h
theorem f4_app (a c : List UInt8) (i n : Nat) (hi : a.length = i) (hn : n < 4294967296) : f4 (a ++ (put4 n ++ c)) i = n := by
  subst hi
  rw [f4, List.drop_left, List.take_append_of_le_length (by simp), List.take_of_length_le (by simp), beN_put4, Nat.mod_eq_of_lt hn]
theorem f8_app (a c : List UInt8) (i n : Nat) (hi : a.length = i) (hn : n < 18446744073709551616) : f8 (a ++ (put8 n ++ c)) i = n := by
  subst hi
  rw [f8, List.drop_left, List.take_append_of_le_length (by simp), List.take_of_length_le (by simp), beN_put8, Nat.mod_eq_of_lt hn]
theorem tm_app (a c : List UInt8) (i : Nat) (t : Tm) (hi : a.length = i) (ht : t.wf) : tm (a ++ (putTm t ++ c)) i = t := by
  subst hi
  have := tm_put t ht c
  rw [tm, f8, List.drop_left]
  rw [tm, f8, List.drop_zero] at this
  exact this
theorem putAt_split (a : At) : putAt a = put4 a.kind ++ (put4 a.mode ++ (put4 a.links ++ (put4 a.user ++ (put4 a.group ++ (put8 a.size ++ (put8 a.used ++ (put8 0 ++ (put8 1 ++ (put8 a.id ++ (putTm a.read ++ (putTm a.write ++ putTm a.turn))))))))))) := by
  rw [putAt]
  have e : a.headB 5 = put4 a.kind ++ (put4 a.mode ++ (put4 a.links ++ (put4 a.user ++ (put4 a.group ++ [])))) := rfl
  rw [e]
  simp only [List.append_assoc, List.append_nil, List.nil_append]
theorem atOf_put (a : At) (ha : a.wf) (c : List UInt8) : atOf (putAt a ++ c) = a ∧ f8 (putAt a ++ c) 36 = 0 ∧ f8 (putAt a ++ c) 44 = 1 := by
  obtain ⟨h4, hs, hu, hi, hr, hw, ht⟩ := ha
  have k0 : a.kind < 4294967296 := h4 0
  have k1 : a.mode < 4294967296 := h4 1
  have k2 : a.links < 4294967296 := h4 2
  have k3 : a.user < 4294967296 := h4 3
  have k4 : a.group < 4294967296 := h4 4
  have e : putAt a ++ c = [] ++ (put4 a.kind ++ (put4 a.mode ++ (put4 a.links ++ (put4 a.user ++ (put4 a.group ++ (put8 a.size ++ (put8 a.used ++ (put8 0 ++ (put8 1 ++ (put8 a.id ++ (putTm a.read ++ (putTm a.write ++ (putTm a.turn ++ c))))))))))))) := by
    rw [putAt_split]; simp only [List.append_assoc, List.nil_append]
  have n0 := f4_app [] (put4 a.mode ++ (put4 a.links ++ (put4 a.user ++ (put4 a.group ++ (put8 a.size ++ (put8 a.used ++ (put8 0 ++ (put8 1 ++ (put8 a.id ++ (putTm a.read ++ (putTm a.write ++ (putTm a.turn ++ c)))))))))))) 0 a.kind rfl k0
  have n1 := f4_app (put4 a.kind) (put4 a.links ++ (put4 a.user ++ (put4 a.group ++ (put8 a.size ++ (put8 a.used ++ (put8 0 ++ (put8 1 ++ (put8 a.id ++ (putTm a.read ++ (putTm a.write ++ (putTm a.turn ++ c))))))))))) 4 a.mode rfl k1
  have n2 := f4_app (put4 a.kind ++ put4 a.mode) (put4 a.user ++ (put4 a.group ++ (put8 a.size ++ (put8 a.used ++ (put8 0 ++ (put8 1 ++ (put8 a.id ++ (putTm a.read ++ (putTm a.write ++ (putTm a.turn ++ c)))))))))) 8 a.links rfl k2
  have n3 := f4_app (put4 a.kind ++ (put4 a.mode ++ put4 a.links)) (put4 a.group ++ (put8 a.size ++ (put8 a.used ++ (put8 0 ++ (put8 1 ++ (put8 a.id ++ (putTm a.read ++ (putTm a.write ++ (putTm a.turn ++ c))))))))) 12 a.user rfl k3
  have n4 := f4_app (put4 a.kind ++ (put4 a.mode ++ (put4 a.links ++ put4 a.user))) (put8 a.size ++ (put8 a.used ++ (put8 0 ++ (put8 1 ++ (put8 a.id ++ (putTm a.read ++ (putTm a.write ++ (putTm a.turn ++ c)))))))) 16 a.group rfl k4
  have n5 := f8_app (put4 a.kind ++ (put4 a.mode ++ (put4 a.links ++ (put4 a.user ++ put4 a.group)))) (put8 a.used ++ (put8 0 ++ (put8 1 ++ (put8 a.id ++ (putTm a.read ++ (putTm a.write ++ (putTm a.turn ++ c))))))) 20 a.size rfl hs
  have n6 := f8_app (put4 a.kind ++ (put4 a.mode ++ (put4 a.links ++ (put4 a.user ++ (put4 a.group ++ put8 a.size))))) (put8 0 ++ (put8 1 ++ (put8 a.id ++ (putTm a.read ++ (putTm a.write ++ (putTm a.turn ++ c)))))) 28 a.used rfl hu
  have n7 := f8_app (put4 a.kind ++ (put4 a.mode ++ (put4 a.links ++ (put4 a.user ++ (put4 a.group ++ (put8 a.size ++ put8 a.used)))))) (put8 1 ++ (put8 a.id ++ (putTm a.read ++ (putTm a.write ++ (putTm a.turn ++ c))))) 36 0 rfl (by decide)
  have n8 := f8_app (put4 a.kind ++ (put4 a.mode ++ (put4 a.links ++ (put4 a.user ++ (put4 a.group ++ (put8 a.size ++ (put8 a.used ++ put8 0))))))) (put8 a.id ++ (putTm a.read ++ (putTm a.write ++ (putTm a.turn ++ c)))) 44 1 rfl (by decide)
  have n9 := f8_app (put4 a.kind ++ (put4 a.mode ++ (put4 a.links ++ (put4 a.user ++ (put4 a.group ++ (put8 a.size ++ (put8 a.used ++ (put8 0 ++ put8 1)))))))) (putTm a.read ++ (putTm a.write ++ (putTm a.turn ++ c))) 52 a.id rfl hi
  have n10 := tm_app (put4 a.kind ++ (put4 a.mode ++ (put4 a.links ++ (put4 a.user ++ (put4 a.group ++ (put8 a.size ++ (put8 a.used ++ (put8 0 ++ (put8 1 ++ put8 a.id))))))))) (putTm a.write ++ (putTm a.turn ++ c)) 60 a.read rfl hr
  have n11 := tm_app (put4 a.kind ++ (put4 a.mode ++ (put4 a.links ++ (put4 a.user ++ (put4 a.group ++ (put8 a.size ++ (put8 a.used ++ (put8 0 ++ (put8 1 ++ (put8 a.id ++ putTm a.read)))))))))) (putTm a.turn ++ c) 68 a.write rfl hw
  have n12 := tm_app (put4 a.kind ++ (put4 a.mode ++ (put4 a.links ++ (put4 a.user ++ (put4 a.group ++ (put8 a.size ++ (put8 a.used ++ (put8 0 ++ (put8 1 ++ (put8 a.id ++ (putTm a.read ++ putTm a.write))))))))))) c 76 a.turn rfl ht
  simp only [List.append_assoc, List.nil_append] at n0 n1 n2 n3 n4 n5 n6 n7 n8 n9 n10 n11 n12 e
  rw [e]
  refine ⟨?_, n7, n8⟩
  rw [atOf, n0, n1, n2, n3, n4, n5, n6, n9, n10, n11, n12]
theorem lawful_at : Lawful pAttrs rTold At.wf where
  back v bs hv h c := by
    rw [rTold_eq] at h
    split at h
    · injection h with h; subst h
      obtain ⟨h1, h2, h3⟩ := atOf_put v hv c
      rw [pAttrs, if_neg (by simp [putAt_length]), if_pos, h1, putAt_length]
      rw [atMay_eq, h1, h2, h3]; simpa
    · cases h
  again b v k h := by
    unfold pAttrs at h
    split at h
    · cases h
    · split at h
      · injection h with h; injection h with h1 h2; subst h1; subst h2
        have hm := ‹atMay b = true›
        rw [atMay_eq] at hm
        simp only [Bool.and_eq_true, beq_iff_eq] at hm
        refine ⟨by omega, atOf_wf b, ?_⟩
        rw [rTold_eq, if_pos hm.1, (putAt_atOf (by omega)).2 hm.2]
      · cases h
  short v bs hv h j hj := by
    rw [rTold_eq] at h
    split at h
    · injection h with h; subst h
      rw [pAttrs, if_pos]
      simp [putAt_length] at hj ⊢; omega
    · cases h
/-! ### how a time is set; what is had; what is to be set; what was told ahead and behind -/
theorem lawful_how : Lawful pHow (fun x => rHow x.1 x.2) (fun x => x.1 < 4294967296 ∧ x.2.wf) := by
  refine (Lawful.bind (q := fun x => if (decide (x.1 ≤ 2) && (x.1 == 2 || x.2 == ⟨0, 0⟩)) = false then .error 1 else cat2 (.ok (put4 x.1)) (if x.1 = 2 then rTime x.2 else .ok [])) (q1 := fun n => .ok (put4 n)) (wf1 := (· < 4294967296)) (q2 := fun x => if (decide (x.1 ≤ 2) && (x.1 == 2 || x.2 == ⟨0, 0⟩)) = false then .error 1 else if x.1 = 2 then rTime x.2 else .ok []) (fun x => x.1) lawful_num (fun n hn => ?_) (fun v hv => hv.1) (fun v => ?_)).weaken (fun v => Iff.rfl) (fun v hv => ?_)
  · by_cases hn2 : n ≤ 2
    · refine Lawful.need (fun _ _ => by simpa using hn2) fun _ => ?_
      by_cases h2 : n = 2
      · subst h2
        rw [if_pos rfl]
        refine (Lawful.bind (q := fun x => cat2 (rTime x.2) (.ok [])) (q2 := fun _ => .ok []) (fun x => x.2) lawful_time (fun t ht => Lawful.pure (fun v => ?_) rfl) (fun v hv => hv.1.2) (fun v => rfl)).weaken (fun v => Iff.rfl) (fun v hv => ?_)
        · constructor
          · rintro ⟨⟨_, h1⟩, h2⟩; exact Prod.ext h1 h2
          · rintro rfl; exact ⟨⟨⟨hn, ht⟩, rfl⟩, rfl⟩
        · rw [hv.2]
          cases rTime v.2 with
          | error e => simp [cat2]
          | ok b => simp [cat2]
      · rw [if_neg h2]
        refine ⟨fun v bs hv h c => ?_, fun b v k h => ?_, fun v bs hv h j hj => ?_⟩
        · obtain ⟨⟨_, _⟩, rfl⟩ := hv
          obtain ⟨m, t⟩ := v
          simp only [h2, if_false] at h
          split at h
          · cases h
          · injection h with h; subst h
            rename_i hz
            have : (m == 2 || t == ⟨0, 0⟩) = true := by
              simp only [Bool.not_eq_false, Bool.and_eq_true] at hz; exact hz.2
            have : t = ⟨0, 0⟩ := by simpa [h2] using this
            subst this; rfl
        · injection h with h; injection h with h1 h3; subst h1; subst h3
          refine ⟨Nat.zero_le _, ⟨⟨hn, by simp [Tm.wf]⟩, rfl⟩, ?_⟩
          simp [h2, hn2]
        · obtain ⟨⟨_, _⟩, rfl⟩ := hv
          simp only [h2, if_false] at h
          split at h
          · cases h
          · injection h with h; subst h; simp at hj
    · refine ⟨fun v bs hv h c => ?_, fun b v k h => ?_, fun v bs hv h j hj => ?_⟩
      · obtain ⟨_, rfl⟩ := hv
        simp [hn2] at h
      · simp [Ps.bind, Ps.need, hn2] at h
      · obtain ⟨_, rfl⟩ := hv
        simp [hn2] at h
  · split
    · rfl
    · rfl
  · dsimp only [rHow]
    split
    · rfl
    · split
      · rw [catP_cons, catP_one]
      · simp [cat2]
theorem lawful_mode : Lawful pMode (fun n => .ok (put4 n)) (· ≤ 4095) := by
  refine (Lawful.bind (q := fun n => cat2 (.ok (put4 n)) (.ok [])) (q2 := fun _ => .ok []) (wf := fun n => n ≤ 4095) (fun n => n) lawful_num (fun n hn => Lawful.need (fun v hv => by obtain ⟨h1, rfl⟩ := hv; simpa using h1) fun h => Lawful.pure (q := fun _ => .ok []) (fun v => ?_) rfl) (fun v hv => by omega) (fun v => rfl)).weaken (fun v => Iff.rfl) (fun v hv => by simp [cat2])
  have : n ≤ 4095 := by simpa using h
  constructor
  · rintro ⟨_, rfl⟩; rfl
  · rintro rfl; exact ⟨this, rfl⟩
theorem lawful_had {α : Type} [DecidableEq α] {p : Ps α} {q : α → Except Int (List UInt8)} {wf : α → Prop} {z : α} {zb : α → Bool} (h : Lawful p q wf) (hz : wf z) (hzb : ∀ x, wf x → (zb x = true ↔ x = z)) :
    Lawful (pHad p z) (fun x => rOpt x.2 (zb x.1) [q x.1]) (fun x => wf x.1) := by
  refine (Lawful.bind (q := fun x : α × Bool => if (x.2 || zb x.1) = false then .error 1 else cat2 (.ok (putYes x.2)) (if x.2 = false then .ok [] else q x.1)) (q2 := fun x => if (x.2 || zb x.1) = false then .error 1 else if x.2 = false then .ok [] else q x.1) (wf := fun x => wf x.1) (fun x => x.2) lawful_yes (fun y _ => ?_) (fun v hv => trivial) (fun v => ?_)).weaken (fun v => Iff.rfl) (fun v hv => ?_)
  · cases y with
    | true =>
      simp only [if_true]
      refine (Lawful.bind (q := fun x : α × Bool => cat2 (q x.1) (.ok [])) (q2 := fun _ => .ok []) (fun x => x.1) h (fun t ht => Lawful.pure (fun v => ?_) rfl) (fun v hv => hv.1) (fun v => rfl)).weaken (fun v => Iff.rfl) (fun v hv => ?_)
      · constructor
        · rintro ⟨⟨_, h1⟩, h2⟩; exact Prod.ext h2 h1
        · rintro rfl; exact ⟨⟨ht, rfl⟩, rfl⟩
      · rw [hv.2]
        cases q v.1 with
        | error e => simp [cat2]
        | ok b => simp [cat2]
    | false =>
      simp only [Bool.false_eq_true, if_false]
      refine ⟨fun v bs hv h c => ?_, fun b v k h => ?_, fun v bs hv h j hj => ?_⟩
      · obtain ⟨hv1, hv2⟩ := hv
        obtain ⟨x, y⟩ := v
        dsimp only at hv1 hv2 h; subst hv2
        split at h
        · cases h
        · rename_i hh
          injection h with h; subst h
          have : zb x = true := by simpa using hh
          rw [(hzb x hv1).1 this]; rfl
      · injection h with h; injection h with h1 h3; subst h1; subst h3
        refine ⟨Nat.zero_le _, ⟨hz, rfl⟩, ?_⟩
        have : zb z = true := (hzb z hz).2 rfl
        simp [this]
      · obtain ⟨hv1, hv2⟩ := hv
        obtain ⟨x, y⟩ := v
        dsimp only at hv1 hv2 h; subst hv2
        split at h
        · cases h
        · injection h with h; subst h; simp at hj
  · split
    · rfl
    · rfl
  · obtain ⟨x, y⟩ := v
    dsimp only [rOpt]
    split
    · rfl
    · cases y with
      | false => simp [cat2]
      | true => rw [catP_one]; cases q x <;> rfl
end Go.Proofs.Ytkaapdnjlmceoaa

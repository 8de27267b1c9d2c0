/- A Book of bytes: bytes put behind, one by one: where they come to lie. -/
import Derived.Test.YtkaapdnjlmceoabDoorBook
set_option linter.unusedVariables false
set_option linter.unusedSimpArgs false
namespace Go.Proofs.YtkaapdnjlmceoabDoor
open Go.RowKit
/-- Where bytes that were put behind others lie: in a new block, or where those lay. -/
def Came (w : World) (v v' : Value) (w' : World) : Prop := (Below w.heap.size w w' ∧ v'.ownBlock = some w.heap.size) ∨ (∃ g, v.ownBlock = some g ∧ v'.ownBlock = some g ∧ w.grownBy w' (some g))
set_option maxRecDepth 100000 in
theorem oper_append_two {w : World} {o : Oper} {a : Act} {K : Act → World → Prop} {Q : Exit → Act → World → Prop} {base base2 : Nat} {v v2 : Value} {xs ys : List UInt8} (s x : Operand)
    (ho : o.op = .call { callee := .builtin .append, args := #[s, x], argTypes := #[31, 31] })
    (hs : a.eval s = v) (hx : a.eval x = v2) (h1 : OwnB w base v xs) (h2 : OwnB w base2 v2 ys) (hne : 0 < ys.length) (hlen : xs.length + ys.length ≤ 1099511627776) (hbase : base ≤ w.heap.size)
    (h : ∀ v' w', OwnB w' base v' (xs ++ ys) → Came w v v' w' → K (a.put o.dst v') w') : Oper.wp Tryd.prog o a w K Q := by
  obtain ⟨g, cap, rfl, hg, hgs, hc1, hc2, hcell⟩ := h2.slice hne
  obtain ⟨i0, hi, hz⟩ : ∃ i0, Tryd.prog.info? 5 = some i0 ∧ (i0.zero, i0.size, i0.bytes) = (some (.int .u8 0), 1, 1) := by
    have hi := info_u8
    cases he : Tryd.prog.info? 5 with
    | none => rw [he] at hi; cases hi
    | some i0 => rw [he] at hi; exact ⟨i0, rfl, by simpa using hi⟩
  simp only [Prod.mk.injEq] at hz
  obtain ⟨hz1, hz2, hz3⟩ := hz
  have h1' := h1
  unfold OwnB at h1'
  have hn1 : ∀ u ∈ u8s ys, u.oneCell' = true := by intro u hu; obtain ⟨y, _, rfl⟩ := List.mem_map.1 hu; rfl
  have hl : (u8s ys).length = ys.length * i0.size := by rw [hz2, u8s_length, Nat.mul_one]
  obtain ⟨v', w', hr, ho', hg', _⟩ := run_append_own (P := Tryd.prog) w base 31 o.type 5 i0 (.int .u8 0) 1 1 Tryd.underlying31 hi hz1 hz2 hz3 rfl (by decide) v _ _ h1' ⟨g, 0, none⟩ ys.length cap (u8s ys) (by rw [u8s_length, Nat.mul_one]) hcell hn1 (by unfold maxLen; omega) (by omega) hbase
  have hown : OwnB w' base v' (xs ++ ys) := by
    unfold OwnB
    rw [List.length_append, u8s_append]
    exact ho'
  have hcame : Came w v v' w' := by
    rcases h1'.2 with ⟨hv, hx0⟩ | ⟨g1, c1, cur1, hv, hb1, hgg, hnc, hcm, hcs, htk⟩
    · subst hv
      have hx00 : xs = [] := List.eq_nil_of_length_eq_zero hx0
      have hr2 := run_append_nil (P := Tryd.prog) w 31 o.type 5 i0 (.int .u8 0) Tryd.underlying31 hi hz1 ⟨g, 0, none⟩ ys.length cap (u8s ys) hl hcell hne (by omega) (by rw [hz3]; omega)
      rw [hr] at hr2
      injection hr2 with e1 e2
      subst e1; subst e2
      exact .inl ⟨((Below.refl _ _).drew).alloc (Nat.le_refl _) _, rfl⟩
    · subst hv
      by_cases hroom : xs.length + ys.length ≤ c1
      · have hr2 := run_append_room (P := Tryd.prog) w 31 o.type 5 i0 Tryd.underlying31 hi g1 xs.length c1 cur1 hgg ⟨g, 0, none⟩ ys.length cap (u8s ys) hl hcell hn1 hroom (by rw [hz2, u8s_length]; omega)
        rw [hr] at hr2
        injection hr2 with e1 e2
        exact .inr ⟨g1, rfl, by rw [e1]; rfl, by simpa [Value.ownBlock] using hg'⟩
      · have hr2 := run_append_grow (P := Tryd.prog) w 31 o.type 5 i0 (.int .u8 0) Tryd.underlying31 hi hz1 ⟨g1, 0, none⟩ xs.length c1 (u8s xs) (by rw [u8s_length, hz2, Nat.mul_one]) (h1'.cells (g := g1) rfl) ⟨g, 0, none⟩ ys.length cap (u8s ys) hl hcell (by omega) (by omega) (growslice_fits (by omega) (by rw [hz3]; omega))
        rw [hr] at hr2
        injection hr2 with e1 e2
        subst e1; subst e2
        exact .inl ⟨((Below.refl _ _).drew).alloc (Nat.le_refl _) _, rfl⟩
  unfold Oper.wp execOp
  simp only [ho, resolve, invoke, builtin, Sem.run_bind, Sem.run_pure, Result.andThen_ok, List.map_toArray, List.map_cons, List.map_nil, hs, hx, hr]
  exact h v' w' hown hcame
theorem wp_append_two {w : World} {ops : Array Oper} {rest : List Oper} {o : Oper} {a : Act} {Q : Exit → Act → World → Prop} {base base2 : Nat} {v v2 : Value} {xs ys : List UInt8} (hgd : o.guard = none) (s x : Operand)
    (ho : o.op = .call { callee := .builtin .append, args := #[s, x], argTypes := #[31, 31] })
    (hs : a.eval s = v) (hx : a.eval x = v2) (h1 : OwnB w base v xs) (h2 : OwnB w base2 v2 ys) (hne : 0 < ys.length) (hlen : xs.length + ys.length ≤ 1099511627776) (hbase : base ≤ w.heap.size)
    (h : ∀ v' w', OwnB w' base v' (xs ++ ys) → Came w v v' w' → wpList Tryd.prog ops Q rest (a.put o.dst v') w') : wpList Tryd.prog ops Q (o :: rest) a w :=
  wpList_plain hgd fun _ hK => oper_append_two s x ho hs hx h1 h2 hne hlen hbase fun v' w' a b => hK _ _ (h v' w' a b)
end Go.Proofs.YtkaapdnjlmceoabDoor
